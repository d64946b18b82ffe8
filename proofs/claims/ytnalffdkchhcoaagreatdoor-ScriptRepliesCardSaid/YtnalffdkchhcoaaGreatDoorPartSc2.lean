/- The normal forms of functions of the layer, printed by a program of this work. -/
import Derived.Test.YtnalffdkchhcoaaGreatDoorPartSc1
namespace Go.Ab
open Go.Proofs
/-! codesearch/script.Line -/
noncomputable def pline_q3 (h0_0 : Int) (h0_1 : ByteArray) (h0_2 : ByteArray) (h0_3 : ByteArray) (h0_4 : Int) (h0_5 : Int) (h0_6 : Int) (h0_7 : Int) (h0_8 : ByteArray) (h0_9 : ByteArray) (h0_10 : List (List L)) (h0_11 : List (List L)) (h0_12 : List (List L)) (h0_13 : List (List L)) (h2m : List (ByteArray × Int)) (h2l : List (ByteArray × Int)) (h2c : Option (ByteArray × Int)) (h3 : List (List L)) : Req := .point 16 [] (todoAt Tryz.prog 16 3) ⟨[an, (.lf (.ptr 0 0)), an, an, (.lf (.ptr 1 0)), an, an, an, an, an, an, an, an, (.lf (.ptr 2 0)), an, an, an, an, an, an, an, an, an, an, an, an, an, an, an, an, an, an, an, an, an, an, an, an, an, an, an, an, an, an, an, an, an, an, an, an, an, an, an, an, an, an, an, an, an, an, an, an, an, an, an, an, an, an, an, an, an, an, an, an, an, an, an, an, an, an, an, an, an, an, an, an, an, an, an, an, an, an, an, an, an, an, an, an, an, an, an, an, an, an, an, an, an, an, an, an, an, an, an, an, an, an, an, an, an, an, an, an, an, an, an, an, an, an, an, an, an, an, an, an, an, an, an, an, an, an, an, an, an, an, an, an, an, an, an, an, an, an, an, an, an, an, an, an, an, an, an, an, an, an, an, an, an, an, an, an, an, an, an, an, an, an, an, an, an, an, an, an, an, an, an, an, an, an, an, an, an, an, an, an, an, an, an, an, an, an, an, an, an, an, an, an, an], [(.box [(.int IntKind.i64), .str, .str, .str, (.int IntKind.i64), (.int IntKind.i64), (.int IntKind.i64), (.int IntKind.i64), .str, .str, (.sl 3), (.sl 9), (.sl 65), (.sl 51)] [(.int IntKind.i64 h0_0), (.str h0_1), (.str h0_2), (.str h0_3), (.int IntKind.i64 h0_4), (.int IntKind.i64 h0_5), (.int IntKind.i64 h0_6), (.int IntKind.i64 h0_7), (.str h0_8), (.str h0_9), (.lst 3 h0_10), (.lst 9 h0_11), (.lst 65 h0_12), (.lst 51 h0_13)]), (.box [(.sl 9)] [(.row 3)]), (.miter h2m h2l h2c), (.row 9 h3 true)]⟩
noncomputable def pline_q48 (h0_0 : Int) (h0_1 : ByteArray) (h0_2 : ByteArray) (h0_3 : ByteArray) (h0_4 : Int) (h0_5 : Int) (h0_6 : Int) (h0_7 : Int) (h0_8 : ByteArray) (h0_9 : ByteArray) (h0_10 : List (List L)) (h0_11 : List (List L)) (h0_12 : List (List L)) (h0_13 : List (List L)) (h2 : List (List L)) : Req := .point 16 [] (todoAt Tryz.prog 16 48) ⟨[an, (.lf (.ptr 0 0)), an, an, (.lf (.ptr 1 0)), an, an, an, an, an, an, an, an, an, an, an, an, an, an, an, an, an, an, an, an, an, an, an, an, an, an, an, an, an, an, an, an, an, an, an, an, an, an, an, an, an, an, an, an, an, an, an, an, an, an, an, an, an, an, an, an, an, an, an, an, an, an, an, an, an, an, an, an, an, an, an, an, an, an, an, an, an, an, an, an, an, an, an, an, an, an, an, an, an, an, an, an, an, an, an, an, an, an, an, an, an, an, an, an, an, an, an, an, an, an, an, an, an, an, an, an, an, an, an, an, an, an, an, an, an, an, an, an, an, an, an, an, an, an, an, an, an, an, an, an, an, an, an, an, an, an, an, an, an, an, an, an, an, an, an, an, an, an, an, an, an, an, an, an, an, an, an, an, an, an, an, an, an, an, an, an, an, an, an, an, an, an, an, an, an, an, an, an, an, an, an, an, an, an, an, an, an, an, an, an, an, an], [(.box [(.int IntKind.i64), .str, .str, .str, (.int IntKind.i64), (.int IntKind.i64), (.int IntKind.i64), (.int IntKind.i64), .str, .str, (.sl 3), (.sl 9), (.sl 65), (.sl 51)] [(.int IntKind.i64 h0_0), (.str h0_1), (.str h0_2), (.str h0_3), (.int IntKind.i64 h0_4), (.int IntKind.i64 h0_5), (.int IntKind.i64 h0_6), (.int IntKind.i64 h0_7), (.str h0_8), (.str h0_9), (.lst 3 h0_10), (.lst 9 h0_11), (.lst 65 h0_12), (.lst 51 h0_13)]), (.box [(.sl 9)] [(.row 2)]), (.row 9 h2 true)]⟩
theorem pline_e (G : Req → R) (e0_0 : Int) (e0_1 : ByteArray) (e0_2 : ByteArray) (e0_3 : ByteArray) (e0_4 : Int) (e0_5 : Int) (e0_6 : Int) (e0_7 : Int) (e0_8 : ByteArray) (e0_9_0 : ByteArray) (e0_9_1 : List (List L)) (e0_9_2 : List (List L)) (e0_10 : List (List L)) (e0_11 : List (List L)) : runB (cfg [k_commands, k_add, k_num, k_listed, k_pquote, k_Join, k_pevent, k_Cont, k_psame]) G (.enter 16 [(.agg [(.int IntKind.i64 (e0_0)), (.str (e0_1)), (.str (e0_2)), (.str (e0_3)), (.int IntKind.i64 (e0_4)), (.int IntKind.i64 (e0_5)), (.int IntKind.i64 (e0_6)), (.int IntKind.i64 (e0_7)), (.str (e0_8)), (.str (e0_9_0)), (.lst 3 e0_9_1), (.lst 9 e0_9_2), (.lst 65 e0_10), (.lst 51 e0_11)])] []) =
  (G (pline_q3 e0_0 e0_1 e0_2 e0_3 e0_4 e0_5 e0_6 e0_7 e0_8 e0_9_0 e0_9_1 e0_9_2 e0_10 e0_11 cmdsL cmdsL none [])) := by kernel_rfl
theorem pline_p3 (G : Req → R) (h0_0 : Int) (h0_1 : ByteArray) (h0_2 : ByteArray) (h0_3 : ByteArray) (h0_4 : Int) (h0_5 : Int) (h0_6 : Int) (h0_7 : Int) (h0_8 : ByteArray) (h0_9 : ByteArray) (h0_10 : List (List L)) (h0_11 : List (List L)) (h0_12 : List (List L)) (h0_13 : List (List L)) (h2m : List (ByteArray × Int)) (h2l : List (ByteArray × Int)) (h2c : Option (ByteArray × Int)) (h3 : List (List L)) : runB (cfg [k_commands, k_add, k_num, k_listed, k_pquote, k_Join, k_pevent, k_Cont, k_psame]) G (pline_q3 h0_0 h0_1 h0_2 h0_3 h0_4 h0_5 h0_6 h0_7 h0_8 h0_9 h0_10 h0_11 h0_12 h0_13 h2m h2l h2c h3) =
  (cond (Nat.beq (List.length h2l) 0)
   (cond (h0_0 == 1)
    (cond (isLs h0_10 h0_11 h0_12 h0_13 && (okI (Ev.mk h0_0 (bl h0_1) (bl h0_2) (bl h0_3) h0_4 h0_5 h0_6 h0_7 (bl h0_8) (bl h0_9) (dIs h0_10) (dSs h0_11) (dRs h0_12) (dWs h0_13)) && (sm (List.length (jn (lsw (Ev.mk h0_0 (bl h0_1) (bl h0_2) (bl h0_3) h0_4 h0_5 h0_6 h0_7 (bl h0_8) (bl h0_9) (dIs h0_10) (dSs h0_11) (dRs h0_12) (dWs h0_13))))) && sm (List.length h3))))
     (G (pline_q48 h0_0 h0_1 h0_2 h0_3 h0_4 h0_5 h0_6 h0_7 h0_8 h0_9 h0_10 h0_11 h0_12 h0_13 (h3 ++ eSs (lsw (Ev.mk h0_0 (bl h0_1) (bl h0_2) (bl h0_3) h0_4 h0_5 h0_6 h0_7 (bl h0_8) (bl h0_9) (dIs h0_10) (dSs h0_11) (dRs h0_12) (dWs h0_13))))))
     none)
    (cond (h0_0 == 7)
     (cond (isLs h0_10 h0_11 h0_12 h0_13 && (okI (Ev.mk h0_0 (bl h0_1) (bl h0_2) (bl h0_3) h0_4 h0_5 h0_6 h0_7 (bl h0_8) (bl h0_9) (dIs h0_10) (dSs h0_11) (dRs h0_12) (dWs h0_13)) && (sm (List.length (jn (lsw (Ev.mk h0_0 (bl h0_1) (bl h0_2) (bl h0_3) h0_4 h0_5 h0_6 h0_7 (bl h0_8) (bl h0_9) (dIs h0_10) (dSs h0_11) (dRs h0_12) (dWs h0_13))))) && sm (List.length h3))))
      (G (pline_q48 h0_0 h0_1 h0_2 h0_3 h0_4 h0_5 h0_6 h0_7 h0_8 h0_9 h0_10 h0_11 h0_12 h0_13 (h3 ++ eSs (lsw (Ev.mk h0_0 (bl h0_1) (bl h0_2) (bl h0_3) h0_4 h0_5 h0_6 h0_7 (bl h0_8) (bl h0_9) (dIs h0_10) (dSs h0_11) (dRs h0_12) (dWs h0_13))))))
      none)
     (cond (h0_0 == 8)
      (cond (isLs h0_10 h0_11 h0_12 h0_13 && (okI (Ev.mk h0_0 (bl h0_1) (bl h0_2) (bl h0_3) h0_4 h0_5 h0_6 h0_7 (bl h0_8) (bl h0_9) (dIs h0_10) (dSs h0_11) (dRs h0_12) (dWs h0_13)) && (sm (List.length (jn (lsw (Ev.mk h0_0 (bl h0_1) (bl h0_2) (bl h0_3) h0_4 h0_5 h0_6 h0_7 (bl h0_8) (bl h0_9) (dIs h0_10) (dSs h0_11) (dRs h0_12) (dWs h0_13))))) && sm (List.length h3))))
       (G (pline_q48 h0_0 h0_1 h0_2 h0_3 h0_4 h0_5 h0_6 h0_7 h0_8 h0_9 h0_10 h0_11 h0_12 h0_13 (h3 ++ eSs (lsw (Ev.mk h0_0 (bl h0_1) (bl h0_2) (bl h0_3) h0_4 h0_5 h0_6 h0_7 (bl h0_8) (bl h0_9) (dIs h0_10) (dSs h0_11) (dRs h0_12) (dWs h0_13))))))
       none)
      (cond (h0_0 == 9)
       (cond (i64B h0_4 && Nat.ble (List.length h3) 10000000)
        (dupN 1
         (cond (sm (List.length (bl h0_8)))
          (cond (sm 1 && Nat.ble (List.length (h3 ++ eSs (List.map it [h0_4]))) 100000000)
           (cond (i64B h0_5 && (i64B h0_6 && i64B h0_7) && Nat.ble (List.length (h3 ++ eSs (List.map it [h0_4]) ++ [[L.str (mk (qt (bl h0_8)))]])) 10000000)
            (G (pline_q48 h0_0 h0_1 h0_2 h0_3 h0_4 h0_5 h0_6 h0_7 h0_8 h0_9 h0_10 h0_11 h0_12 h0_13 (h3 ++ eSs (List.map it [h0_4]) ++ [[L.str (mk (qt (bl h0_8)))]] ++ eSs (List.map it [h0_5, h0_6, h0_7]))))
            none)
           none)
          none))
        none)
       (cond (h0_0 == 10)
        (cond (i64B h0_4 && Nat.ble (List.length h3) 10000000)
         (dupN 1
          (cond (sm (List.length (bl h0_8)))
           (cond (sm 1 && Nat.ble (List.length (h3 ++ eSs (List.map it [h0_4]))) 100000000)
            (G (pline_q48 h0_0 h0_1 h0_2 h0_3 h0_4 h0_5 h0_6 h0_7 h0_8 h0_9 h0_10 h0_11 h0_12 h0_13 (h3 ++ eSs (List.map it [h0_4]) ++ [[L.str (mk (qt (bl h0_8)))]])))
            none)
           none))
         none)
        (cond (h0_0 == 13)
         (cond (i64B h0_4 && (i64B h0_5 && i64B h0_7) && Nat.ble (List.length h3) 10000000)
          (G (pline_q48 h0_0 h0_1 h0_2 h0_3 h0_4 h0_5 h0_6 h0_7 h0_8 h0_9 h0_10 h0_11 h0_12 h0_13 (h3 ++ eSs (List.map it [h0_4, h0_5, h0_7]))))
          none)
         (cond (h0_0 == 21)
          (cond (i64B h0_4 && Nat.ble (List.length h3) 10000000)
           (both
            (both
             (both
              (dupN 1
               (cond (sm (List.length (bl h0_8)))
                (cond (sm (List.length (bl h0_3)))
                 (cond (sm 4 && Nat.ble (List.length (h3 ++ eSs (List.map it [h0_4]))) 100000000)
                  (G (pline_q48 h0_0 h0_1 h0_2 h0_3 h0_4 h0_5 h0_6 h0_7 h0_8 h0_9 h0_10 h0_11 h0_12 h0_13 (h3 ++ eSs (List.map it [h0_4]) ++ [[L.str h0_1], [L.str h0_2], [L.str (mk (qt (bl h0_8)))], [L.str (mk (qt (bl h0_3)))]])))
                  none)
                 none)
                none))
              (both
               (cond (sm (List.length (bl h0_8)))
                (dupN 1
                 (cond (sm (List.length (bl h0_3)))
                  (cond (sm 4 && Nat.ble (List.length (h3 ++ eSs (List.map it [h0_4]))) 100000000)
                   (G (pline_q48 h0_0 h0_1 h0_2 h0_3 h0_4 h0_5 h0_6 h0_7 h0_8 h0_9 h0_10 h0_11 h0_12 h0_13 (h3 ++ eSs (List.map it [h0_4]) ++ [[L.str h0_1], [L.str h0_2], [L.str (mk (qt (bl h0_8)))], [L.str (mk (qt (bl h0_3)))]])))
                   none)
                  none))
                none)
               (both
                (cond (sm (List.length (bl h0_8)))
                 (cond (sm (List.length (bl h0_3)))
                  (cond (sm 4 && Nat.ble (List.length (h3 ++ eSs (List.map it [h0_4]))) 100000000)
                   (G (pline_q48 h0_0 h0_1 h0_2 h0_3 h0_4 h0_5 h0_6 h0_7 h0_8 h0_9 h0_10 h0_11 h0_12 h0_13 (h3 ++ eSs (List.map it [h0_4]) ++ [[L.str h0_1], [L.str h0_2], [L.str (mk (qt (bl h0_8)))], [L.str (mk (qt (bl h0_3)))]])))
                   none)
                  none)
                 none)
                (cond (sm (List.length (bl h0_8)))
                 (dupN 1
                  (cond (sm (List.length (bl h0_3)))
                   (cond (sm 4 && Nat.ble (List.length (h3 ++ eSs (List.map it [h0_4]))) 100000000)
                    (G (pline_q48 h0_0 h0_1 h0_2 h0_3 h0_4 h0_5 h0_6 h0_7 h0_8 h0_9 h0_10 h0_11 h0_12 h0_13 (h3 ++ eSs (List.map it [h0_4]) ++ [[L.str h0_1], [L.str h0_2], [L.str (mk (qt (bl h0_8)))], [L.str (mk (qt (bl h0_3)))]])))
                    none)
                   none))
                 none))))
             (both
              (both
               (dupN 1
                (cond (sm (List.length (bl h0_8)))
                 (cond (sm (List.length (bl h0_3)))
                  (cond (sm 4 && Nat.ble (List.length (h3 ++ eSs (List.map it [h0_4]))) 100000000)
                   (G (pline_q48 h0_0 h0_1 h0_2 h0_3 h0_4 h0_5 h0_6 h0_7 h0_8 h0_9 h0_10 h0_11 h0_12 h0_13 (h3 ++ eSs (List.map it [h0_4]) ++ [[L.str h0_1], [L.str h0_2], [L.str (mk (qt (bl h0_8)))], [L.str (mk (qt (bl h0_3)))]])))
                   none)
                  none)
                 none))
               (both
                (cond (sm (List.length (bl h0_8)))
                 (dupN 1
                  (cond (sm (List.length (bl h0_3)))
                   (cond (sm 4 && Nat.ble (List.length (h3 ++ eSs (List.map it [h0_4]))) 100000000)
                    (G (pline_q48 h0_0 h0_1 h0_2 h0_3 h0_4 h0_5 h0_6 h0_7 h0_8 h0_9 h0_10 h0_11 h0_12 h0_13 (h3 ++ eSs (List.map it [h0_4]) ++ [[L.str h0_1], [L.str h0_2], [L.str (mk (qt (bl h0_8)))], [L.str (mk (qt (bl h0_3)))]])))
                    none)
                   none))
                 none)
                (both
                 (cond (sm (List.length (bl h0_8)))
                  (cond (sm (List.length (bl h0_3)))
                   (cond (sm 4 && Nat.ble (List.length (h3 ++ eSs (List.map it [h0_4]))) 100000000)
                    (G (pline_q48 h0_0 h0_1 h0_2 h0_3 h0_4 h0_5 h0_6 h0_7 h0_8 h0_9 h0_10 h0_11 h0_12 h0_13 (h3 ++ eSs (List.map it [h0_4]) ++ [[L.str h0_1], [L.str h0_2], [L.str (mk (qt (bl h0_8)))], [L.str (mk (qt (bl h0_3)))]])))
                    none)
                   none)
                  none)
                 (cond (sm (List.length (bl h0_8)))
                  (dupN 1
                   (cond (sm (List.length (bl h0_3)))
                    (cond (sm 4 && Nat.ble (List.length (h3 ++ eSs (List.map it [h0_4]))) 100000000)
                     (G (pline_q48 h0_0 h0_1 h0_2 h0_3 h0_4 h0_5 h0_6 h0_7 h0_8 h0_9 h0_10 h0_11 h0_12 h0_13 (h3 ++ eSs (List.map it [h0_4]) ++ [[L.str h0_1], [L.str h0_2], [L.str (mk (qt (bl h0_8)))], [L.str (mk (qt (bl h0_3)))]])))
                     none)
                    none))
                  none))))
              (both
               (cond (sm (List.length (bl h0_8)))
                (both
                 (dupN 1
                  (cond (sm (List.length (bl h0_3)))
                   (cond (sm 4 && Nat.ble (List.length (h3 ++ eSs (List.map it [h0_4]))) 100000000)
                    (G (pline_q48 h0_0 h0_1 h0_2 h0_3 h0_4 h0_5 h0_6 h0_7 h0_8 h0_9 h0_10 h0_11 h0_12 h0_13 (h3 ++ eSs (List.map it [h0_4]) ++ [[L.str h0_1], [L.str h0_2], [L.str (mk (qt (bl h0_8)))], [L.str (mk (qt (bl h0_3)))]])))
                    none)
                   none))
                 (both
                  (dupN 1
                   (cond (sm (List.length (bl h0_3)))
                    (cond (sm 4 && Nat.ble (List.length (h3 ++ eSs (List.map it [h0_4]))) 100000000)
                     (G (pline_q48 h0_0 h0_1 h0_2 h0_3 h0_4 h0_5 h0_6 h0_7 h0_8 h0_9 h0_10 h0_11 h0_12 h0_13 (h3 ++ eSs (List.map it [h0_4]) ++ [[L.str h0_1], [L.str h0_2], [L.str (mk (qt (bl h0_8)))], [L.str (mk (qt (bl h0_3)))]])))
                     none)
                    none))
                  (cond (sm (List.length (bl h0_3)))
                   (cond (sm 4 && Nat.ble (List.length (h3 ++ eSs (List.map it [h0_4]))) 100000000)
                    (G (pline_q48 h0_0 h0_1 h0_2 h0_3 h0_4 h0_5 h0_6 h0_7 h0_8 h0_9 h0_10 h0_11 h0_12 h0_13 (h3 ++ eSs (List.map it [h0_4]) ++ [[L.str h0_1], [L.str h0_2], [L.str (mk (qt (bl h0_8)))], [L.str (mk (qt (bl h0_3)))]])))
                    none)
                   none)))
                none)
               (both
                (both
                 (cond (sm (List.length (bl h0_8)))
                  (cond (sm (List.length (bl h0_3)))
                   (cond (sm 4 && Nat.ble (List.length (h3 ++ eSs (List.map it [h0_4]))) 100000000)
                    (G (pline_q48 h0_0 h0_1 h0_2 h0_3 h0_4 h0_5 h0_6 h0_7 h0_8 h0_9 h0_10 h0_11 h0_12 h0_13 (h3 ++ eSs (List.map it [h0_4]) ++ [[L.str h0_1], [L.str h0_2], [L.str (mk (qt (bl h0_8)))], [L.str (mk (qt (bl h0_3)))]])))
                    none)
                   none)
                  none)
                 (cond (sm (List.length (bl h0_8)))
                  (dupN 1
                   (cond (sm (List.length (bl h0_3)))
                    (cond (sm 4 && Nat.ble (List.length (h3 ++ eSs (List.map it [h0_4]))) 100000000)
                     (G (pline_q48 h0_0 h0_1 h0_2 h0_3 h0_4 h0_5 h0_6 h0_7 h0_8 h0_9 h0_10 h0_11 h0_12 h0_13 (h3 ++ eSs (List.map it [h0_4]) ++ [[L.str h0_1], [L.str h0_2], [L.str (mk (qt (bl h0_8)))], [L.str (mk (qt (bl h0_3)))]])))
                     none)
                    none))
                  none))
                (both
                 (both
                  (cond (sm (List.length (bl h0_8)))
                   (cond (sm (List.length (bl h0_3)))
                    (cond (sm 4 && Nat.ble (List.length (h3 ++ eSs (List.map it [h0_4]))) 100000000)
                     (G (pline_q48 h0_0 h0_1 h0_2 h0_3 h0_4 h0_5 h0_6 h0_7 h0_8 h0_9 h0_10 h0_11 h0_12 h0_13 (h3 ++ eSs (List.map it [h0_4]) ++ [[L.str h0_1], [L.str h0_2], [L.str (mk (qt (bl h0_8)))], [L.str (mk (qt (bl h0_3)))]])))
                     none)
                    none)
                   none)
                  (cond (sm (List.length (bl h0_8)))
                   (dupN 1
                    (cond (sm (List.length (bl h0_3)))
                     (cond (sm 4 && Nat.ble (List.length (h3 ++ eSs (List.map it [h0_4]))) 100000000)
                      (G (pline_q48 h0_0 h0_1 h0_2 h0_3 h0_4 h0_5 h0_6 h0_7 h0_8 h0_9 h0_10 h0_11 h0_12 h0_13 (h3 ++ eSs (List.map it [h0_4]) ++ [[L.str h0_1], [L.str h0_2], [L.str (mk (qt (bl h0_8)))], [L.str (mk (qt (bl h0_3)))]])))
                      none)
                     none))
                   none))
                 (cond (sm (List.length (bl h0_8)))
                  (both
                   (dupN 1
                    (cond (sm (List.length (bl h0_3)))
                     (cond (sm 4 && Nat.ble (List.length (h3 ++ eSs (List.map it [h0_4]))) 100000000)
                      (G (pline_q48 h0_0 h0_1 h0_2 h0_3 h0_4 h0_5 h0_6 h0_7 h0_8 h0_9 h0_10 h0_11 h0_12 h0_13 (h3 ++ eSs (List.map it [h0_4]) ++ [[L.str h0_1], [L.str h0_2], [L.str (mk (qt (bl h0_8)))], [L.str (mk (qt (bl h0_3)))]])))
                      none)
                     none))
                   (both
                    (dupN 1
                     (cond (sm (List.length (bl h0_3)))
                      (cond (sm 4 && Nat.ble (List.length (h3 ++ eSs (List.map it [h0_4]))) 100000000)
                       (G (pline_q48 h0_0 h0_1 h0_2 h0_3 h0_4 h0_5 h0_6 h0_7 h0_8 h0_9 h0_10 h0_11 h0_12 h0_13 (h3 ++ eSs (List.map it [h0_4]) ++ [[L.str h0_1], [L.str h0_2], [L.str (mk (qt (bl h0_8)))], [L.str (mk (qt (bl h0_3)))]])))
                       none)
                      none))
                    (cond (sm (List.length (bl h0_3)))
                     (cond (sm 4 && Nat.ble (List.length (h3 ++ eSs (List.map it [h0_4]))) 100000000)
                      (G (pline_q48 h0_0 h0_1 h0_2 h0_3 h0_4 h0_5 h0_6 h0_7 h0_8 h0_9 h0_10 h0_11 h0_12 h0_13 (h3 ++ eSs (List.map it [h0_4]) ++ [[L.str h0_1], [L.str h0_2], [L.str (mk (qt (bl h0_8)))], [L.str (mk (qt (bl h0_3)))]])))
                      none)
                     none)))
                  none))))))
            (both
             (both
              (both
               (dupN 1
                (cond (sm (List.length (bl h0_8)))
                 (cond (sm (List.length (bl h0_3)))
                  (cond (sm 4 && Nat.ble (List.length (h3 ++ eSs (List.map it [h0_4]))) 100000000)
                   (G (pline_q48 h0_0 h0_1 h0_2 h0_3 h0_4 h0_5 h0_6 h0_7 h0_8 h0_9 h0_10 h0_11 h0_12 h0_13 (h3 ++ eSs (List.map it [h0_4]) ++ [[L.str h0_1], [L.str h0_2], [L.str (mk (qt (bl h0_8)))], [L.str (mk (qt (bl h0_3)))]])))
                   none)
                  none)
                 none))
               (both
                (cond (sm (List.length (bl h0_8)))
                 (dupN 1
                  (cond (sm (List.length (bl h0_3)))
                   (cond (sm 4 && Nat.ble (List.length (h3 ++ eSs (List.map it [h0_4]))) 100000000)
                    (G (pline_q48 h0_0 h0_1 h0_2 h0_3 h0_4 h0_5 h0_6 h0_7 h0_8 h0_9 h0_10 h0_11 h0_12 h0_13 (h3 ++ eSs (List.map it [h0_4]) ++ [[L.str h0_1], [L.str h0_2], [L.str (mk (qt (bl h0_8)))], [L.str (mk (qt (bl h0_3)))]])))
                    none)
                   none))
                 none)
                (both
                 (cond (sm (List.length (bl h0_8)))
                  (cond (sm (List.length (bl h0_3)))
                   (cond (sm 4 && Nat.ble (List.length (h3 ++ eSs (List.map it [h0_4]))) 100000000)
                    (G (pline_q48 h0_0 h0_1 h0_2 h0_3 h0_4 h0_5 h0_6 h0_7 h0_8 h0_9 h0_10 h0_11 h0_12 h0_13 (h3 ++ eSs (List.map it [h0_4]) ++ [[L.str h0_1], [L.str h0_2], [L.str (mk (qt (bl h0_8)))], [L.str (mk (qt (bl h0_3)))]])))
                    none)
                   none)
                  none)
                 (cond (sm (List.length (bl h0_8)))
                  (dupN 1
                   (cond (sm (List.length (bl h0_3)))
                    (cond (sm 4 && Nat.ble (List.length (h3 ++ eSs (List.map it [h0_4]))) 100000000)
                     (G (pline_q48 h0_0 h0_1 h0_2 h0_3 h0_4 h0_5 h0_6 h0_7 h0_8 h0_9 h0_10 h0_11 h0_12 h0_13 (h3 ++ eSs (List.map it [h0_4]) ++ [[L.str h0_1], [L.str h0_2], [L.str (mk (qt (bl h0_8)))], [L.str (mk (qt (bl h0_3)))]])))
                     none)
                    none))
                  none))))
              (both
               (both
                (dupN 1
                 (cond (sm (List.length (bl h0_8)))
                  (cond (sm (List.length (bl h0_3)))
                   (cond (sm 4 && Nat.ble (List.length (h3 ++ eSs (List.map it [h0_4]))) 100000000)
                    (G (pline_q48 h0_0 h0_1 h0_2 h0_3 h0_4 h0_5 h0_6 h0_7 h0_8 h0_9 h0_10 h0_11 h0_12 h0_13 (h3 ++ eSs (List.map it [h0_4]) ++ [[L.str h0_1], [L.str h0_2], [L.str (mk (qt (bl h0_8)))], [L.str (mk (qt (bl h0_3)))]])))
                    none)
                   none)
                  none))
                (both
                 (cond (sm (List.length (bl h0_8)))
                  (dupN 1
                   (cond (sm (List.length (bl h0_3)))
                    (cond (sm 4 && Nat.ble (List.length (h3 ++ eSs (List.map it [h0_4]))) 100000000)
                     (G (pline_q48 h0_0 h0_1 h0_2 h0_3 h0_4 h0_5 h0_6 h0_7 h0_8 h0_9 h0_10 h0_11 h0_12 h0_13 (h3 ++ eSs (List.map it [h0_4]) ++ [[L.str h0_1], [L.str h0_2], [L.str (mk (qt (bl h0_8)))], [L.str (mk (qt (bl h0_3)))]])))
                     none)
                    none))
                  none)
                 (both
                  (cond (sm (List.length (bl h0_8)))
                   (cond (sm (List.length (bl h0_3)))
                    (cond (sm 4 && Nat.ble (List.length (h3 ++ eSs (List.map it [h0_4]))) 100000000)
                     (G (pline_q48 h0_0 h0_1 h0_2 h0_3 h0_4 h0_5 h0_6 h0_7 h0_8 h0_9 h0_10 h0_11 h0_12 h0_13 (h3 ++ eSs (List.map it [h0_4]) ++ [[L.str h0_1], [L.str h0_2], [L.str (mk (qt (bl h0_8)))], [L.str (mk (qt (bl h0_3)))]])))
                     none)
                    none)
                   none)
                  (cond (sm (List.length (bl h0_8)))
                   (dupN 1
                    (cond (sm (List.length (bl h0_3)))
                     (cond (sm 4 && Nat.ble (List.length (h3 ++ eSs (List.map it [h0_4]))) 100000000)
                      (G (pline_q48 h0_0 h0_1 h0_2 h0_3 h0_4 h0_5 h0_6 h0_7 h0_8 h0_9 h0_10 h0_11 h0_12 h0_13 (h3 ++ eSs (List.map it [h0_4]) ++ [[L.str h0_1], [L.str h0_2], [L.str (mk (qt (bl h0_8)))], [L.str (mk (qt (bl h0_3)))]])))
                      none)
                     none))
                   none))))
               (both
                (cond (sm (List.length (bl h0_8)))
                 (both
                  (dupN 1
                   (cond (sm (List.length (bl h0_3)))
                    (cond (sm 4 && Nat.ble (List.length (h3 ++ eSs (List.map it [h0_4]))) 100000000)
                     (G (pline_q48 h0_0 h0_1 h0_2 h0_3 h0_4 h0_5 h0_6 h0_7 h0_8 h0_9 h0_10 h0_11 h0_12 h0_13 (h3 ++ eSs (List.map it [h0_4]) ++ [[L.str h0_1], [L.str h0_2], [L.str (mk (qt (bl h0_8)))], [L.str (mk (qt (bl h0_3)))]])))
                     none)
                    none))
                  (both
                   (dupN 1
                    (cond (sm (List.length (bl h0_3)))
                     (cond (sm 4 && Nat.ble (List.length (h3 ++ eSs (List.map it [h0_4]))) 100000000)
                      (G (pline_q48 h0_0 h0_1 h0_2 h0_3 h0_4 h0_5 h0_6 h0_7 h0_8 h0_9 h0_10 h0_11 h0_12 h0_13 (h3 ++ eSs (List.map it [h0_4]) ++ [[L.str h0_1], [L.str h0_2], [L.str (mk (qt (bl h0_8)))], [L.str (mk (qt (bl h0_3)))]])))
                      none)
                     none))
                   (cond (sm (List.length (bl h0_3)))
                    (cond (sm 4 && Nat.ble (List.length (h3 ++ eSs (List.map it [h0_4]))) 100000000)
                     (G (pline_q48 h0_0 h0_1 h0_2 h0_3 h0_4 h0_5 h0_6 h0_7 h0_8 h0_9 h0_10 h0_11 h0_12 h0_13 (h3 ++ eSs (List.map it [h0_4]) ++ [[L.str h0_1], [L.str h0_2], [L.str (mk (qt (bl h0_8)))], [L.str (mk (qt (bl h0_3)))]])))
                     none)
                    none)))
                 none)
                (both
                 (both
                  (cond (sm (List.length (bl h0_8)))
                   (cond (sm (List.length (bl h0_3)))
                    (cond (sm 4 && Nat.ble (List.length (h3 ++ eSs (List.map it [h0_4]))) 100000000)
                     (G (pline_q48 h0_0 h0_1 h0_2 h0_3 h0_4 h0_5 h0_6 h0_7 h0_8 h0_9 h0_10 h0_11 h0_12 h0_13 (h3 ++ eSs (List.map it [h0_4]) ++ [[L.str h0_1], [L.str h0_2], [L.str (mk (qt (bl h0_8)))], [L.str (mk (qt (bl h0_3)))]])))
                     none)
                    none)
                   none)
                  (cond (sm (List.length (bl h0_8)))
                   (dupN 1
                    (cond (sm (List.length (bl h0_3)))
                     (cond (sm 4 && Nat.ble (List.length (h3 ++ eSs (List.map it [h0_4]))) 100000000)
                      (G (pline_q48 h0_0 h0_1 h0_2 h0_3 h0_4 h0_5 h0_6 h0_7 h0_8 h0_9 h0_10 h0_11 h0_12 h0_13 (h3 ++ eSs (List.map it [h0_4]) ++ [[L.str h0_1], [L.str h0_2], [L.str (mk (qt (bl h0_8)))], [L.str (mk (qt (bl h0_3)))]])))
                      none)
                     none))
                   none))
                 (both
                  (both
                   (cond (sm (List.length (bl h0_8)))
                    (cond (sm (List.length (bl h0_3)))
                     (cond (sm 4 && Nat.ble (List.length (h3 ++ eSs (List.map it [h0_4]))) 100000000)
                      (G (pline_q48 h0_0 h0_1 h0_2 h0_3 h0_4 h0_5 h0_6 h0_7 h0_8 h0_9 h0_10 h0_11 h0_12 h0_13 (h3 ++ eSs (List.map it [h0_4]) ++ [[L.str h0_1], [L.str h0_2], [L.str (mk (qt (bl h0_8)))], [L.str (mk (qt (bl h0_3)))]])))
                      none)
                     none)
                    none)
                   (cond (sm (List.length (bl h0_8)))
                    (dupN 1
                     (cond (sm (List.length (bl h0_3)))
                      (cond (sm 4 && Nat.ble (List.length (h3 ++ eSs (List.map it [h0_4]))) 100000000)
                       (G (pline_q48 h0_0 h0_1 h0_2 h0_3 h0_4 h0_5 h0_6 h0_7 h0_8 h0_9 h0_10 h0_11 h0_12 h0_13 (h3 ++ eSs (List.map it [h0_4]) ++ [[L.str h0_1], [L.str h0_2], [L.str (mk (qt (bl h0_8)))], [L.str (mk (qt (bl h0_3)))]])))
                       none)
                      none))
                    none))
                  (cond (sm (List.length (bl h0_8)))
                   (both
                    (dupN 1
                     (cond (sm (List.length (bl h0_3)))
                      (cond (sm 4 && Nat.ble (List.length (h3 ++ eSs (List.map it [h0_4]))) 100000000)
                       (G (pline_q48 h0_0 h0_1 h0_2 h0_3 h0_4 h0_5 h0_6 h0_7 h0_8 h0_9 h0_10 h0_11 h0_12 h0_13 (h3 ++ eSs (List.map it [h0_4]) ++ [[L.str h0_1], [L.str h0_2], [L.str (mk (qt (bl h0_8)))], [L.str (mk (qt (bl h0_3)))]])))
                       none)
                      none))
                    (both
                     (dupN 1
                      (cond (sm (List.length (bl h0_3)))
                       (cond (sm 4 && Nat.ble (List.length (h3 ++ eSs (List.map it [h0_4]))) 100000000)
                        (G (pline_q48 h0_0 h0_1 h0_2 h0_3 h0_4 h0_5 h0_6 h0_7 h0_8 h0_9 h0_10 h0_11 h0_12 h0_13 (h3 ++ eSs (List.map it [h0_4]) ++ [[L.str h0_1], [L.str h0_2], [L.str (mk (qt (bl h0_8)))], [L.str (mk (qt (bl h0_3)))]])))
                        none)
                       none))
                     (cond (sm (List.length (bl h0_3)))
                      (cond (sm 4 && Nat.ble (List.length (h3 ++ eSs (List.map it [h0_4]))) 100000000)
                       (G (pline_q48 h0_0 h0_1 h0_2 h0_3 h0_4 h0_5 h0_6 h0_7 h0_8 h0_9 h0_10 h0_11 h0_12 h0_13 (h3 ++ eSs (List.map it [h0_4]) ++ [[L.str h0_1], [L.str h0_2], [L.str (mk (qt (bl h0_8)))], [L.str (mk (qt (bl h0_3)))]])))
                       none)
                      none)))
                   none))))))
             (both
              (both
               (both
                (dupN 1
                 (cond (sm (List.length (bl h0_8)))
                  (cond (sm (List.length (bl h0_3)))
                   (cond (sm 4 && Nat.ble (List.length (h3 ++ eSs (List.map it [h0_4]))) 100000000)
                    (G (pline_q48 h0_0 h0_1 h0_2 h0_3 h0_4 h0_5 h0_6 h0_7 h0_8 h0_9 h0_10 h0_11 h0_12 h0_13 (h3 ++ eSs (List.map it [h0_4]) ++ [[L.str h0_1], [L.str h0_2], [L.str (mk (qt (bl h0_8)))], [L.str (mk (qt (bl h0_3)))]])))
                    none)
                   none)
                  none))
                (both
                 (cond (sm (List.length (bl h0_8)))
                  (dupN 1
                   (cond (sm (List.length (bl h0_3)))
                    (cond (sm 4 && Nat.ble (List.length (h3 ++ eSs (List.map it [h0_4]))) 100000000)
                     (G (pline_q48 h0_0 h0_1 h0_2 h0_3 h0_4 h0_5 h0_6 h0_7 h0_8 h0_9 h0_10 h0_11 h0_12 h0_13 (h3 ++ eSs (List.map it [h0_4]) ++ [[L.str h0_1], [L.str h0_2], [L.str (mk (qt (bl h0_8)))], [L.str (mk (qt (bl h0_3)))]])))
                     none)
                    none))
                  none)
                 (both
                  (cond (sm (List.length (bl h0_8)))
                   (cond (sm (List.length (bl h0_3)))
                    (cond (sm 4 && Nat.ble (List.length (h3 ++ eSs (List.map it [h0_4]))) 100000000)
                     (G (pline_q48 h0_0 h0_1 h0_2 h0_3 h0_4 h0_5 h0_6 h0_7 h0_8 h0_9 h0_10 h0_11 h0_12 h0_13 (h3 ++ eSs (List.map it [h0_4]) ++ [[L.str h0_1], [L.str h0_2], [L.str (mk (qt (bl h0_8)))], [L.str (mk (qt (bl h0_3)))]])))
                     none)
                    none)
                   none)
                  (cond (sm (List.length (bl h0_8)))
                   (dupN 1
                    (cond (sm (List.length (bl h0_3)))
                     (cond (sm 4 && Nat.ble (List.length (h3 ++ eSs (List.map it [h0_4]))) 100000000)
                      (G (pline_q48 h0_0 h0_1 h0_2 h0_3 h0_4 h0_5 h0_6 h0_7 h0_8 h0_9 h0_10 h0_11 h0_12 h0_13 (h3 ++ eSs (List.map it [h0_4]) ++ [[L.str h0_1], [L.str h0_2], [L.str (mk (qt (bl h0_8)))], [L.str (mk (qt (bl h0_3)))]])))
                      none)
                     none))
                   none))))
               (both
                (both
                 (dupN 1
                  (cond (sm (List.length (bl h0_8)))
                   (cond (sm (List.length (bl h0_3)))
                    (cond (sm 4 && Nat.ble (List.length (h3 ++ eSs (List.map it [h0_4]))) 100000000)
                     (G (pline_q48 h0_0 h0_1 h0_2 h0_3 h0_4 h0_5 h0_6 h0_7 h0_8 h0_9 h0_10 h0_11 h0_12 h0_13 (h3 ++ eSs (List.map it [h0_4]) ++ [[L.str h0_1], [L.str h0_2], [L.str (mk (qt (bl h0_8)))], [L.str (mk (qt (bl h0_3)))]])))
                     none)
                    none)
                   none))
                 (both
                  (cond (sm (List.length (bl h0_8)))
                   (dupN 1
                    (cond (sm (List.length (bl h0_3)))
                     (cond (sm 4 && Nat.ble (List.length (h3 ++ eSs (List.map it [h0_4]))) 100000000)
                      (G (pline_q48 h0_0 h0_1 h0_2 h0_3 h0_4 h0_5 h0_6 h0_7 h0_8 h0_9 h0_10 h0_11 h0_12 h0_13 (h3 ++ eSs (List.map it [h0_4]) ++ [[L.str h0_1], [L.str h0_2], [L.str (mk (qt (bl h0_8)))], [L.str (mk (qt (bl h0_3)))]])))
                      none)
                     none))
                   none)
                  (both
                   (cond (sm (List.length (bl h0_8)))
                    (cond (sm (List.length (bl h0_3)))
                     (cond (sm 4 && Nat.ble (List.length (h3 ++ eSs (List.map it [h0_4]))) 100000000)
                      (G (pline_q48 h0_0 h0_1 h0_2 h0_3 h0_4 h0_5 h0_6 h0_7 h0_8 h0_9 h0_10 h0_11 h0_12 h0_13 (h3 ++ eSs (List.map it [h0_4]) ++ [[L.str h0_1], [L.str h0_2], [L.str (mk (qt (bl h0_8)))], [L.str (mk (qt (bl h0_3)))]])))
                      none)
                     none)
                    none)
                   (cond (sm (List.length (bl h0_8)))
                    (dupN 1
                     (cond (sm (List.length (bl h0_3)))
                      (cond (sm 4 && Nat.ble (List.length (h3 ++ eSs (List.map it [h0_4]))) 100000000)
                       (G (pline_q48 h0_0 h0_1 h0_2 h0_3 h0_4 h0_5 h0_6 h0_7 h0_8 h0_9 h0_10 h0_11 h0_12 h0_13 (h3 ++ eSs (List.map it [h0_4]) ++ [[L.str h0_1], [L.str h0_2], [L.str (mk (qt (bl h0_8)))], [L.str (mk (qt (bl h0_3)))]])))
                       none)
                      none))
                    none))))
                (both
                 (cond (sm (List.length (bl h0_8)))
                  (both
                   (dupN 1
                    (cond (sm (List.length (bl h0_3)))
                     (cond (sm 4 && Nat.ble (List.length (h3 ++ eSs (List.map it [h0_4]))) 100000000)
                      (G (pline_q48 h0_0 h0_1 h0_2 h0_3 h0_4 h0_5 h0_6 h0_7 h0_8 h0_9 h0_10 h0_11 h0_12 h0_13 (h3 ++ eSs (List.map it [h0_4]) ++ [[L.str h0_1], [L.str h0_2], [L.str (mk (qt (bl h0_8)))], [L.str (mk (qt (bl h0_3)))]])))
                      none)
                     none))
                   (both
                    (dupN 1
                     (cond (sm (List.length (bl h0_3)))
                      (cond (sm 4 && Nat.ble (List.length (h3 ++ eSs (List.map it [h0_4]))) 100000000)
                       (G (pline_q48 h0_0 h0_1 h0_2 h0_3 h0_4 h0_5 h0_6 h0_7 h0_8 h0_9 h0_10 h0_11 h0_12 h0_13 (h3 ++ eSs (List.map it [h0_4]) ++ [[L.str h0_1], [L.str h0_2], [L.str (mk (qt (bl h0_8)))], [L.str (mk (qt (bl h0_3)))]])))
                       none)
                      none))
                    (cond (sm (List.length (bl h0_3)))
                     (cond (sm 4 && Nat.ble (List.length (h3 ++ eSs (List.map it [h0_4]))) 100000000)
                      (G (pline_q48 h0_0 h0_1 h0_2 h0_3 h0_4 h0_5 h0_6 h0_7 h0_8 h0_9 h0_10 h0_11 h0_12 h0_13 (h3 ++ eSs (List.map it [h0_4]) ++ [[L.str h0_1], [L.str h0_2], [L.str (mk (qt (bl h0_8)))], [L.str (mk (qt (bl h0_3)))]])))
                      none)
                     none)))
                  none)
                 (both
                  (both
                   (cond (sm (List.length (bl h0_8)))
                    (cond (sm (List.length (bl h0_3)))
                     (cond (sm 4 && Nat.ble (List.length (h3 ++ eSs (List.map it [h0_4]))) 100000000)
                      (G (pline_q48 h0_0 h0_1 h0_2 h0_3 h0_4 h0_5 h0_6 h0_7 h0_8 h0_9 h0_10 h0_11 h0_12 h0_13 (h3 ++ eSs (List.map it [h0_4]) ++ [[L.str h0_1], [L.str h0_2], [L.str (mk (qt (bl h0_8)))], [L.str (mk (qt (bl h0_3)))]])))
                      none)
                     none)
                    none)
                   (cond (sm (List.length (bl h0_8)))
                    (dupN 1
                     (cond (sm (List.length (bl h0_3)))
                      (cond (sm 4 && Nat.ble (List.length (h3 ++ eSs (List.map it [h0_4]))) 100000000)
                       (G (pline_q48 h0_0 h0_1 h0_2 h0_3 h0_4 h0_5 h0_6 h0_7 h0_8 h0_9 h0_10 h0_11 h0_12 h0_13 (h3 ++ eSs (List.map it [h0_4]) ++ [[L.str h0_1], [L.str h0_2], [L.str (mk (qt (bl h0_8)))], [L.str (mk (qt (bl h0_3)))]])))
                       none)
                      none))
                    none))
                  (both
                   (both
                    (cond (sm (List.length (bl h0_8)))
                     (cond (sm (List.length (bl h0_3)))
                      (cond (sm 4 && Nat.ble (List.length (h3 ++ eSs (List.map it [h0_4]))) 100000000)
                       (G (pline_q48 h0_0 h0_1 h0_2 h0_3 h0_4 h0_5 h0_6 h0_7 h0_8 h0_9 h0_10 h0_11 h0_12 h0_13 (h3 ++ eSs (List.map it [h0_4]) ++ [[L.str h0_1], [L.str h0_2], [L.str (mk (qt (bl h0_8)))], [L.str (mk (qt (bl h0_3)))]])))
                       none)
                      none)
                     none)
                    (cond (sm (List.length (bl h0_8)))
                     (dupN 1
                      (cond (sm (List.length (bl h0_3)))
                       (cond (sm 4 && Nat.ble (List.length (h3 ++ eSs (List.map it [h0_4]))) 100000000)
                        (G (pline_q48 h0_0 h0_1 h0_2 h0_3 h0_4 h0_5 h0_6 h0_7 h0_8 h0_9 h0_10 h0_11 h0_12 h0_13 (h3 ++ eSs (List.map it [h0_4]) ++ [[L.str h0_1], [L.str h0_2], [L.str (mk (qt (bl h0_8)))], [L.str (mk (qt (bl h0_3)))]])))
                        none)
                       none))
                     none))
                   (cond (sm (List.length (bl h0_8)))
                    (both
                     (dupN 1
                      (cond (sm (List.length (bl h0_3)))
                       (cond (sm 4 && Nat.ble (List.length (h3 ++ eSs (List.map it [h0_4]))) 100000000)
                        (G (pline_q48 h0_0 h0_1 h0_2 h0_3 h0_4 h0_5 h0_6 h0_7 h0_8 h0_9 h0_10 h0_11 h0_12 h0_13 (h3 ++ eSs (List.map it [h0_4]) ++ [[L.str h0_1], [L.str h0_2], [L.str (mk (qt (bl h0_8)))], [L.str (mk (qt (bl h0_3)))]])))
                        none)
                       none))
                     (both
                      (dupN 1
                       (cond (sm (List.length (bl h0_3)))
                        (cond (sm 4 && Nat.ble (List.length (h3 ++ eSs (List.map it [h0_4]))) 100000000)
                         (G (pline_q48 h0_0 h0_1 h0_2 h0_3 h0_4 h0_5 h0_6 h0_7 h0_8 h0_9 h0_10 h0_11 h0_12 h0_13 (h3 ++ eSs (List.map it [h0_4]) ++ [[L.str h0_1], [L.str h0_2], [L.str (mk (qt (bl h0_8)))], [L.str (mk (qt (bl h0_3)))]])))
                         none)
                        none))
                      (cond (sm (List.length (bl h0_3)))
                       (cond (sm 4 && Nat.ble (List.length (h3 ++ eSs (List.map it [h0_4]))) 100000000)
                        (G (pline_q48 h0_0 h0_1 h0_2 h0_3 h0_4 h0_5 h0_6 h0_7 h0_8 h0_9 h0_10 h0_11 h0_12 h0_13 (h3 ++ eSs (List.map it [h0_4]) ++ [[L.str h0_1], [L.str h0_2], [L.str (mk (qt (bl h0_8)))], [L.str (mk (qt (bl h0_3)))]])))
                        none)
                       none)))
                    none))))))
              (both
               (cond (sm (List.length (bl h0_8)))
                (both
                 (both
                  (dupN 1
                   (cond (sm (List.length (bl h0_3)))
                    (cond (sm 4 && Nat.ble (List.length (h3 ++ eSs (List.map it [h0_4]))) 100000000)
                     (G (pline_q48 h0_0 h0_1 h0_2 h0_3 h0_4 h0_5 h0_6 h0_7 h0_8 h0_9 h0_10 h0_11 h0_12 h0_13 (h3 ++ eSs (List.map it [h0_4]) ++ [[L.str h0_1], [L.str h0_2], [L.str (mk (qt (bl h0_8)))], [L.str (mk (qt (bl h0_3)))]])))
                     none)
                    none))
                  (both
                   (dupN 1
                    (cond (sm (List.length (bl h0_3)))
                     (cond (sm 4 && Nat.ble (List.length (h3 ++ eSs (List.map it [h0_4]))) 100000000)
                      (G (pline_q48 h0_0 h0_1 h0_2 h0_3 h0_4 h0_5 h0_6 h0_7 h0_8 h0_9 h0_10 h0_11 h0_12 h0_13 (h3 ++ eSs (List.map it [h0_4]) ++ [[L.str h0_1], [L.str h0_2], [L.str (mk (qt (bl h0_8)))], [L.str (mk (qt (bl h0_3)))]])))
                      none)
                     none))
                   (cond (sm (List.length (bl h0_3)))
                    (cond (sm 4 && Nat.ble (List.length (h3 ++ eSs (List.map it [h0_4]))) 100000000)
                     (G (pline_q48 h0_0 h0_1 h0_2 h0_3 h0_4 h0_5 h0_6 h0_7 h0_8 h0_9 h0_10 h0_11 h0_12 h0_13 (h3 ++ eSs (List.map it [h0_4]) ++ [[L.str h0_1], [L.str h0_2], [L.str (mk (qt (bl h0_8)))], [L.str (mk (qt (bl h0_3)))]])))
                     none)
                    none)))
                 (both
                  (both
                   (dupN 1
                    (cond (sm (List.length (bl h0_3)))
                     (cond (sm 4 && Nat.ble (List.length (h3 ++ eSs (List.map it [h0_4]))) 100000000)
                      (G (pline_q48 h0_0 h0_1 h0_2 h0_3 h0_4 h0_5 h0_6 h0_7 h0_8 h0_9 h0_10 h0_11 h0_12 h0_13 (h3 ++ eSs (List.map it [h0_4]) ++ [[L.str h0_1], [L.str h0_2], [L.str (mk (qt (bl h0_8)))], [L.str (mk (qt (bl h0_3)))]])))
                      none)
                     none))
                   (both
                    (dupN 1
                     (cond (sm (List.length (bl h0_3)))
                      (cond (sm 4 && Nat.ble (List.length (h3 ++ eSs (List.map it [h0_4]))) 100000000)
                       (G (pline_q48 h0_0 h0_1 h0_2 h0_3 h0_4 h0_5 h0_6 h0_7 h0_8 h0_9 h0_10 h0_11 h0_12 h0_13 (h3 ++ eSs (List.map it [h0_4]) ++ [[L.str h0_1], [L.str h0_2], [L.str (mk (qt (bl h0_8)))], [L.str (mk (qt (bl h0_3)))]])))
                       none)
                      none))
                    (cond (sm (List.length (bl h0_3)))
                     (cond (sm 4 && Nat.ble (List.length (h3 ++ eSs (List.map it [h0_4]))) 100000000)
                      (G (pline_q48 h0_0 h0_1 h0_2 h0_3 h0_4 h0_5 h0_6 h0_7 h0_8 h0_9 h0_10 h0_11 h0_12 h0_13 (h3 ++ eSs (List.map it [h0_4]) ++ [[L.str h0_1], [L.str h0_2], [L.str (mk (qt (bl h0_8)))], [L.str (mk (qt (bl h0_3)))]])))
                      none)
                     none)))
                  (both
                   (both
                    (dupN 1
                     (cond (sm (List.length (bl h0_3)))
                      (cond (sm 4 && Nat.ble (List.length (h3 ++ eSs (List.map it [h0_4]))) 100000000)
                       (G (pline_q48 h0_0 h0_1 h0_2 h0_3 h0_4 h0_5 h0_6 h0_7 h0_8 h0_9 h0_10 h0_11 h0_12 h0_13 (h3 ++ eSs (List.map it [h0_4]) ++ [[L.str h0_1], [L.str h0_2], [L.str (mk (qt (bl h0_8)))], [L.str (mk (qt (bl h0_3)))]])))
                       none)
                      none))
                    (both
                     (dupN 1
                      (cond (sm (List.length (bl h0_3)))
                       (cond (sm 4 && Nat.ble (List.length (h3 ++ eSs (List.map it [h0_4]))) 100000000)
                        (G (pline_q48 h0_0 h0_1 h0_2 h0_3 h0_4 h0_5 h0_6 h0_7 h0_8 h0_9 h0_10 h0_11 h0_12 h0_13 (h3 ++ eSs (List.map it [h0_4]) ++ [[L.str h0_1], [L.str h0_2], [L.str (mk (qt (bl h0_8)))], [L.str (mk (qt (bl h0_3)))]])))
                        none)
                       none))
                     (cond (sm (List.length (bl h0_3)))
                      (cond (sm 4 && Nat.ble (List.length (h3 ++ eSs (List.map it [h0_4]))) 100000000)
                       (G (pline_q48 h0_0 h0_1 h0_2 h0_3 h0_4 h0_5 h0_6 h0_7 h0_8 h0_9 h0_10 h0_11 h0_12 h0_13 (h3 ++ eSs (List.map it [h0_4]) ++ [[L.str h0_1], [L.str h0_2], [L.str (mk (qt (bl h0_8)))], [L.str (mk (qt (bl h0_3)))]])))
                       none)
                      none)))
                   (cond (sm (List.length (bl h0_3)))
                    (cond (sm 4 && Nat.ble (List.length (h3 ++ eSs (List.map it [h0_4]))) 100000000)
                     (G (pline_q48 h0_0 h0_1 h0_2 h0_3 h0_4 h0_5 h0_6 h0_7 h0_8 h0_9 h0_10 h0_11 h0_12 h0_13 (h3 ++ eSs (List.map it [h0_4]) ++ [[L.str h0_1], [L.str h0_2], [L.str (mk (qt (bl h0_8)))], [L.str (mk (qt (bl h0_3)))]])))
                     none)
                    none))))
                none)
               (both
                (both
                 (both
                  (cond (sm (List.length (bl h0_8)))
                   (cond (sm (List.length (bl h0_3)))
                    (cond (sm 4 && Nat.ble (List.length (h3 ++ eSs (List.map it [h0_4]))) 100000000)
                     (G (pline_q48 h0_0 h0_1 h0_2 h0_3 h0_4 h0_5 h0_6 h0_7 h0_8 h0_9 h0_10 h0_11 h0_12 h0_13 (h3 ++ eSs (List.map it [h0_4]) ++ [[L.str h0_1], [L.str h0_2], [L.str (mk (qt (bl h0_8)))], [L.str (mk (qt (bl h0_3)))]])))
                     none)
                    none)
                   none)
                  (cond (sm (List.length (bl h0_8)))
                   (dupN 1
                    (cond (sm (List.length (bl h0_3)))
                     (cond (sm 4 && Nat.ble (List.length (h3 ++ eSs (List.map it [h0_4]))) 100000000)
                      (G (pline_q48 h0_0 h0_1 h0_2 h0_3 h0_4 h0_5 h0_6 h0_7 h0_8 h0_9 h0_10 h0_11 h0_12 h0_13 (h3 ++ eSs (List.map it [h0_4]) ++ [[L.str h0_1], [L.str h0_2], [L.str (mk (qt (bl h0_8)))], [L.str (mk (qt (bl h0_3)))]])))
                      none)
                     none))
                   none))
                 (both
                  (both
                   (cond (sm (List.length (bl h0_8)))
                    (cond (sm (List.length (bl h0_3)))
                     (cond (sm 4 && Nat.ble (List.length (h3 ++ eSs (List.map it [h0_4]))) 100000000)
                      (G (pline_q48 h0_0 h0_1 h0_2 h0_3 h0_4 h0_5 h0_6 h0_7 h0_8 h0_9 h0_10 h0_11 h0_12 h0_13 (h3 ++ eSs (List.map it [h0_4]) ++ [[L.str h0_1], [L.str h0_2], [L.str (mk (qt (bl h0_8)))], [L.str (mk (qt (bl h0_3)))]])))
                      none)
                     none)
                    none)
                   (cond (sm (List.length (bl h0_8)))
                    (dupN 1
                     (cond (sm (List.length (bl h0_3)))
                      (cond (sm 4 && Nat.ble (List.length (h3 ++ eSs (List.map it [h0_4]))) 100000000)
                       (G (pline_q48 h0_0 h0_1 h0_2 h0_3 h0_4 h0_5 h0_6 h0_7 h0_8 h0_9 h0_10 h0_11 h0_12 h0_13 (h3 ++ eSs (List.map it [h0_4]) ++ [[L.str h0_1], [L.str h0_2], [L.str (mk (qt (bl h0_8)))], [L.str (mk (qt (bl h0_3)))]])))
                       none)
                      none))
                    none))
                  (cond (sm (List.length (bl h0_8)))
                   (both
                    (dupN 1
                     (cond (sm (List.length (bl h0_3)))
                      (cond (sm 4 && Nat.ble (List.length (h3 ++ eSs (List.map it [h0_4]))) 100000000)
                       (G (pline_q48 h0_0 h0_1 h0_2 h0_3 h0_4 h0_5 h0_6 h0_7 h0_8 h0_9 h0_10 h0_11 h0_12 h0_13 (h3 ++ eSs (List.map it [h0_4]) ++ [[L.str h0_1], [L.str h0_2], [L.str (mk (qt (bl h0_8)))], [L.str (mk (qt (bl h0_3)))]])))
                       none)
                      none))
                    (both
                     (dupN 1
                      (cond (sm (List.length (bl h0_3)))
                       (cond (sm 4 && Nat.ble (List.length (h3 ++ eSs (List.map it [h0_4]))) 100000000)
                        (G (pline_q48 h0_0 h0_1 h0_2 h0_3 h0_4 h0_5 h0_6 h0_7 h0_8 h0_9 h0_10 h0_11 h0_12 h0_13 (h3 ++ eSs (List.map it [h0_4]) ++ [[L.str h0_1], [L.str h0_2], [L.str (mk (qt (bl h0_8)))], [L.str (mk (qt (bl h0_3)))]])))
                        none)
                       none))
                     (cond (sm (List.length (bl h0_3)))
                      (cond (sm 4 && Nat.ble (List.length (h3 ++ eSs (List.map it [h0_4]))) 100000000)
                       (G (pline_q48 h0_0 h0_1 h0_2 h0_3 h0_4 h0_5 h0_6 h0_7 h0_8 h0_9 h0_10 h0_11 h0_12 h0_13 (h3 ++ eSs (List.map it [h0_4]) ++ [[L.str h0_1], [L.str h0_2], [L.str (mk (qt (bl h0_8)))], [L.str (mk (qt (bl h0_3)))]])))
                       none)
                      none)))
                   none)))
                (both
                 (both
                  (both
                   (cond (sm (List.length (bl h0_8)))
                    (cond (sm (List.length (bl h0_3)))
                     (cond (sm 4 && Nat.ble (List.length (h3 ++ eSs (List.map it [h0_4]))) 100000000)
                      (G (pline_q48 h0_0 h0_1 h0_2 h0_3 h0_4 h0_5 h0_6 h0_7 h0_8 h0_9 h0_10 h0_11 h0_12 h0_13 (h3 ++ eSs (List.map it [h0_4]) ++ [[L.str h0_1], [L.str h0_2], [L.str (mk (qt (bl h0_8)))], [L.str (mk (qt (bl h0_3)))]])))
                      none)
                     none)
                    none)
                   (cond (sm (List.length (bl h0_8)))
                    (dupN 1
                     (cond (sm (List.length (bl h0_3)))
                      (cond (sm 4 && Nat.ble (List.length (h3 ++ eSs (List.map it [h0_4]))) 100000000)
                       (G (pline_q48 h0_0 h0_1 h0_2 h0_3 h0_4 h0_5 h0_6 h0_7 h0_8 h0_9 h0_10 h0_11 h0_12 h0_13 (h3 ++ eSs (List.map it [h0_4]) ++ [[L.str h0_1], [L.str h0_2], [L.str (mk (qt (bl h0_8)))], [L.str (mk (qt (bl h0_3)))]])))
                       none)
                      none))
                    none))
                  (both
                   (both
                    (cond (sm (List.length (bl h0_8)))
                     (cond (sm (List.length (bl h0_3)))
                      (cond (sm 4 && Nat.ble (List.length (h3 ++ eSs (List.map it [h0_4]))) 100000000)
                       (G (pline_q48 h0_0 h0_1 h0_2 h0_3 h0_4 h0_5 h0_6 h0_7 h0_8 h0_9 h0_10 h0_11 h0_12 h0_13 (h3 ++ eSs (List.map it [h0_4]) ++ [[L.str h0_1], [L.str h0_2], [L.str (mk (qt (bl h0_8)))], [L.str (mk (qt (bl h0_3)))]])))
                       none)
                      none)
                     none)
                    (cond (sm (List.length (bl h0_8)))
                     (dupN 1
                      (cond (sm (List.length (bl h0_3)))
                       (cond (sm 4 && Nat.ble (List.length (h3 ++ eSs (List.map it [h0_4]))) 100000000)
                        (G (pline_q48 h0_0 h0_1 h0_2 h0_3 h0_4 h0_5 h0_6 h0_7 h0_8 h0_9 h0_10 h0_11 h0_12 h0_13 (h3 ++ eSs (List.map it [h0_4]) ++ [[L.str h0_1], [L.str h0_2], [L.str (mk (qt (bl h0_8)))], [L.str (mk (qt (bl h0_3)))]])))
                        none)
                       none))
                     none))
                   (cond (sm (List.length (bl h0_8)))
                    (both
                     (dupN 1
                      (cond (sm (List.length (bl h0_3)))
                       (cond (sm 4 && Nat.ble (List.length (h3 ++ eSs (List.map it [h0_4]))) 100000000)
                        (G (pline_q48 h0_0 h0_1 h0_2 h0_3 h0_4 h0_5 h0_6 h0_7 h0_8 h0_9 h0_10 h0_11 h0_12 h0_13 (h3 ++ eSs (List.map it [h0_4]) ++ [[L.str h0_1], [L.str h0_2], [L.str (mk (qt (bl h0_8)))], [L.str (mk (qt (bl h0_3)))]])))
                        none)
                       none))
                     (both
                      (dupN 1
                       (cond (sm (List.length (bl h0_3)))
                        (cond (sm 4 && Nat.ble (List.length (h3 ++ eSs (List.map it [h0_4]))) 100000000)
                         (G (pline_q48 h0_0 h0_1 h0_2 h0_3 h0_4 h0_5 h0_6 h0_7 h0_8 h0_9 h0_10 h0_11 h0_12 h0_13 (h3 ++ eSs (List.map it [h0_4]) ++ [[L.str h0_1], [L.str h0_2], [L.str (mk (qt (bl h0_8)))], [L.str (mk (qt (bl h0_3)))]])))
                         none)
                        none))
                      (cond (sm (List.length (bl h0_3)))
                       (cond (sm 4 && Nat.ble (List.length (h3 ++ eSs (List.map it [h0_4]))) 100000000)
                        (G (pline_q48 h0_0 h0_1 h0_2 h0_3 h0_4 h0_5 h0_6 h0_7 h0_8 h0_9 h0_10 h0_11 h0_12 h0_13 (h3 ++ eSs (List.map it [h0_4]) ++ [[L.str h0_1], [L.str h0_2], [L.str (mk (qt (bl h0_8)))], [L.str (mk (qt (bl h0_3)))]])))
                        none)
                       none)))
                    none)))
                 (both
                  (both
                   (both
                    (cond (sm (List.length (bl h0_8)))
                     (cond (sm (List.length (bl h0_3)))
                      (cond (sm 4 && Nat.ble (List.length (h3 ++ eSs (List.map it [h0_4]))) 100000000)
                       (G (pline_q48 h0_0 h0_1 h0_2 h0_3 h0_4 h0_5 h0_6 h0_7 h0_8 h0_9 h0_10 h0_11 h0_12 h0_13 (h3 ++ eSs (List.map it [h0_4]) ++ [[L.str h0_1], [L.str h0_2], [L.str (mk (qt (bl h0_8)))], [L.str (mk (qt (bl h0_3)))]])))
                       none)
                      none)
                     none)
                    (cond (sm (List.length (bl h0_8)))
                     (dupN 1
                      (cond (sm (List.length (bl h0_3)))
                       (cond (sm 4 && Nat.ble (List.length (h3 ++ eSs (List.map it [h0_4]))) 100000000)
                        (G (pline_q48 h0_0 h0_1 h0_2 h0_3 h0_4 h0_5 h0_6 h0_7 h0_8 h0_9 h0_10 h0_11 h0_12 h0_13 (h3 ++ eSs (List.map it [h0_4]) ++ [[L.str h0_1], [L.str h0_2], [L.str (mk (qt (bl h0_8)))], [L.str (mk (qt (bl h0_3)))]])))
                        none)
                       none))
                     none))
                   (both
                    (both
                     (cond (sm (List.length (bl h0_8)))
                      (cond (sm (List.length (bl h0_3)))
                       (cond (sm 4 && Nat.ble (List.length (h3 ++ eSs (List.map it [h0_4]))) 100000000)
                        (G (pline_q48 h0_0 h0_1 h0_2 h0_3 h0_4 h0_5 h0_6 h0_7 h0_8 h0_9 h0_10 h0_11 h0_12 h0_13 (h3 ++ eSs (List.map it [h0_4]) ++ [[L.str h0_1], [L.str h0_2], [L.str (mk (qt (bl h0_8)))], [L.str (mk (qt (bl h0_3)))]])))
                        none)
                       none)
                      none)
                     (cond (sm (List.length (bl h0_8)))
                      (dupN 1
                       (cond (sm (List.length (bl h0_3)))
                        (cond (sm 4 && Nat.ble (List.length (h3 ++ eSs (List.map it [h0_4]))) 100000000)
                         (G (pline_q48 h0_0 h0_1 h0_2 h0_3 h0_4 h0_5 h0_6 h0_7 h0_8 h0_9 h0_10 h0_11 h0_12 h0_13 (h3 ++ eSs (List.map it [h0_4]) ++ [[L.str h0_1], [L.str h0_2], [L.str (mk (qt (bl h0_8)))], [L.str (mk (qt (bl h0_3)))]])))
                         none)
                        none))
                      none))
                    (cond (sm (List.length (bl h0_8)))
                     (both
                      (dupN 1
                       (cond (sm (List.length (bl h0_3)))
                        (cond (sm 4 && Nat.ble (List.length (h3 ++ eSs (List.map it [h0_4]))) 100000000)
                         (G (pline_q48 h0_0 h0_1 h0_2 h0_3 h0_4 h0_5 h0_6 h0_7 h0_8 h0_9 h0_10 h0_11 h0_12 h0_13 (h3 ++ eSs (List.map it [h0_4]) ++ [[L.str h0_1], [L.str h0_2], [L.str (mk (qt (bl h0_8)))], [L.str (mk (qt (bl h0_3)))]])))
                         none)
                        none))
                      (both
                       (dupN 1
                        (cond (sm (List.length (bl h0_3)))
                         (cond (sm 4 && Nat.ble (List.length (h3 ++ eSs (List.map it [h0_4]))) 100000000)
                          (G (pline_q48 h0_0 h0_1 h0_2 h0_3 h0_4 h0_5 h0_6 h0_7 h0_8 h0_9 h0_10 h0_11 h0_12 h0_13 (h3 ++ eSs (List.map it [h0_4]) ++ [[L.str h0_1], [L.str h0_2], [L.str (mk (qt (bl h0_8)))], [L.str (mk (qt (bl h0_3)))]])))
                          none)
                         none))
                       (cond (sm (List.length (bl h0_3)))
                        (cond (sm 4 && Nat.ble (List.length (h3 ++ eSs (List.map it [h0_4]))) 100000000)
                         (G (pline_q48 h0_0 h0_1 h0_2 h0_3 h0_4 h0_5 h0_6 h0_7 h0_8 h0_9 h0_10 h0_11 h0_12 h0_13 (h3 ++ eSs (List.map it [h0_4]) ++ [[L.str h0_1], [L.str h0_2], [L.str (mk (qt (bl h0_8)))], [L.str (mk (qt (bl h0_3)))]])))
                         none)
                        none)))
                     none)))
                  (cond (sm (List.length (bl h0_8)))
                   (both
                    (both
                     (dupN 1
                      (cond (sm (List.length (bl h0_3)))
                       (cond (sm 4 && Nat.ble (List.length (h3 ++ eSs (List.map it [h0_4]))) 100000000)
                        (G (pline_q48 h0_0 h0_1 h0_2 h0_3 h0_4 h0_5 h0_6 h0_7 h0_8 h0_9 h0_10 h0_11 h0_12 h0_13 (h3 ++ eSs (List.map it [h0_4]) ++ [[L.str h0_1], [L.str h0_2], [L.str (mk (qt (bl h0_8)))], [L.str (mk (qt (bl h0_3)))]])))
                        none)
                       none))
                     (both
                      (dupN 1
                       (cond (sm (List.length (bl h0_3)))
                        (cond (sm 4 && Nat.ble (List.length (h3 ++ eSs (List.map it [h0_4]))) 100000000)
                         (G (pline_q48 h0_0 h0_1 h0_2 h0_3 h0_4 h0_5 h0_6 h0_7 h0_8 h0_9 h0_10 h0_11 h0_12 h0_13 (h3 ++ eSs (List.map it [h0_4]) ++ [[L.str h0_1], [L.str h0_2], [L.str (mk (qt (bl h0_8)))], [L.str (mk (qt (bl h0_3)))]])))
                         none)
                        none))
                      (cond (sm (List.length (bl h0_3)))
                       (cond (sm 4 && Nat.ble (List.length (h3 ++ eSs (List.map it [h0_4]))) 100000000)
                        (G (pline_q48 h0_0 h0_1 h0_2 h0_3 h0_4 h0_5 h0_6 h0_7 h0_8 h0_9 h0_10 h0_11 h0_12 h0_13 (h3 ++ eSs (List.map it [h0_4]) ++ [[L.str h0_1], [L.str h0_2], [L.str (mk (qt (bl h0_8)))], [L.str (mk (qt (bl h0_3)))]])))
                        none)
                       none)))
                    (both
                     (both
                      (dupN 1
                       (cond (sm (List.length (bl h0_3)))
                        (cond (sm 4 && Nat.ble (List.length (h3 ++ eSs (List.map it [h0_4]))) 100000000)
                         (G (pline_q48 h0_0 h0_1 h0_2 h0_3 h0_4 h0_5 h0_6 h0_7 h0_8 h0_9 h0_10 h0_11 h0_12 h0_13 (h3 ++ eSs (List.map it [h0_4]) ++ [[L.str h0_1], [L.str h0_2], [L.str (mk (qt (bl h0_8)))], [L.str (mk (qt (bl h0_3)))]])))
                         none)
                        none))
                      (both
                       (dupN 1
                        (cond (sm (List.length (bl h0_3)))
                         (cond (sm 4 && Nat.ble (List.length (h3 ++ eSs (List.map it [h0_4]))) 100000000)
                          (G (pline_q48 h0_0 h0_1 h0_2 h0_3 h0_4 h0_5 h0_6 h0_7 h0_8 h0_9 h0_10 h0_11 h0_12 h0_13 (h3 ++ eSs (List.map it [h0_4]) ++ [[L.str h0_1], [L.str h0_2], [L.str (mk (qt (bl h0_8)))], [L.str (mk (qt (bl h0_3)))]])))
                          none)
                         none))
                       (cond (sm (List.length (bl h0_3)))
                        (cond (sm 4 && Nat.ble (List.length (h3 ++ eSs (List.map it [h0_4]))) 100000000)
                         (G (pline_q48 h0_0 h0_1 h0_2 h0_3 h0_4 h0_5 h0_6 h0_7 h0_8 h0_9 h0_10 h0_11 h0_12 h0_13 (h3 ++ eSs (List.map it [h0_4]) ++ [[L.str h0_1], [L.str h0_2], [L.str (mk (qt (bl h0_8)))], [L.str (mk (qt (bl h0_3)))]])))
                         none)
                        none)))
                     (both
                      (both
                       (dupN 1
                        (cond (sm (List.length (bl h0_3)))
                         (cond (sm 4 && Nat.ble (List.length (h3 ++ eSs (List.map it [h0_4]))) 100000000)
                          (G (pline_q48 h0_0 h0_1 h0_2 h0_3 h0_4 h0_5 h0_6 h0_7 h0_8 h0_9 h0_10 h0_11 h0_12 h0_13 (h3 ++ eSs (List.map it [h0_4]) ++ [[L.str h0_1], [L.str h0_2], [L.str (mk (qt (bl h0_8)))], [L.str (mk (qt (bl h0_3)))]])))
                          none)
                         none))
                       (both
                        (dupN 1
                         (cond (sm (List.length (bl h0_3)))
                          (cond (sm 4 && Nat.ble (List.length (h3 ++ eSs (List.map it [h0_4]))) 100000000)
                           (G (pline_q48 h0_0 h0_1 h0_2 h0_3 h0_4 h0_5 h0_6 h0_7 h0_8 h0_9 h0_10 h0_11 h0_12 h0_13 (h3 ++ eSs (List.map it [h0_4]) ++ [[L.str h0_1], [L.str h0_2], [L.str (mk (qt (bl h0_8)))], [L.str (mk (qt (bl h0_3)))]])))
                           none)
                          none))
                        (cond (sm (List.length (bl h0_3)))
                         (cond (sm 4 && Nat.ble (List.length (h3 ++ eSs (List.map it [h0_4]))) 100000000)
                          (G (pline_q48 h0_0 h0_1 h0_2 h0_3 h0_4 h0_5 h0_6 h0_7 h0_8 h0_9 h0_10 h0_11 h0_12 h0_13 (h3 ++ eSs (List.map it [h0_4]) ++ [[L.str h0_1], [L.str h0_2], [L.str (mk (qt (bl h0_8)))], [L.str (mk (qt (bl h0_3)))]])))
                          none)
                         none)))
                      (cond (sm (List.length (bl h0_3)))
                       (cond (sm 4 && Nat.ble (List.length (h3 ++ eSs (List.map it [h0_4]))) 100000000)
                        (G (pline_q48 h0_0 h0_1 h0_2 h0_3 h0_4 h0_5 h0_6 h0_7 h0_8 h0_9 h0_10 h0_11 h0_12 h0_13 (h3 ++ eSs (List.map it [h0_4]) ++ [[L.str h0_1], [L.str h0_2], [L.str (mk (qt (bl h0_8)))], [L.str (mk (qt (bl h0_3)))]])))
                        none)
                       none))))
                   none))))))))
           none)
          (cond (h0_0 == 22)
           (cond (sm 1 && Nat.ble (List.length h3) 100000000)
            (G (pline_q48 h0_0 h0_1 h0_2 h0_3 h0_4 h0_5 h0_6 h0_7 h0_8 h0_9 h0_10 h0_11 h0_12 h0_13 (h3 ++ [[L.str h0_1]])))
            none)
           (cond (h0_0 == 5)
            (cond (sm 1 && Nat.ble (List.length h3) 100000000)
             (G (pline_q48 h0_0 h0_1 h0_2 h0_3 h0_4 h0_5 h0_6 h0_7 h0_8 h0_9 h0_10 h0_11 h0_12 h0_13 (h3 ++ [[L.str h0_1]])))
             none)
            (cond (h0_0 == 20)
             (cond (sm 1 && Nat.ble (List.length h3) 100000000)
              (G (pline_q48 h0_0 h0_1 h0_2 h0_3 h0_4 h0_5 h0_6 h0_7 h0_8 h0_9 h0_10 h0_11 h0_12 h0_13 (h3 ++ [[L.str h0_1]])))
              none)
             (cond (h0_0 == 2)
              (cond (sm 3 && Nat.ble (List.length h3) 100000000)
               (G (pline_q48 h0_0 h0_1 h0_2 h0_3 h0_4 h0_5 h0_6 h0_7 h0_8 h0_9 h0_10 h0_11 h0_12 h0_13 (h3 ++ [[L.str h0_1], [L.str h0_2], [L.str h0_3]])))
               none)
              (cond (h0_0 == 4)
               (cond (sm 3 && Nat.ble (List.length h3) 100000000)
                (cond (i64B h0_4 && Nat.ble (List.length (h3 ++ [[L.str h0_1], [L.str h0_2], [L.str h0_3]])) 10000000)
                 (G (pline_q48 h0_0 h0_1 h0_2 h0_3 h0_4 h0_5 h0_6 h0_7 h0_8 h0_9 h0_10 h0_11 h0_12 h0_13 (h3 ++ [[L.str h0_1], [L.str h0_2], [L.str h0_3]] ++ eSs (List.map it [h0_4]))))
                 none)
                none)
               (cond (h0_0 == 3)
                (cond (sm 2 && Nat.ble (List.length h3) 100000000)
                 (G (pline_q48 h0_0 h0_1 h0_2 h0_3 h0_4 h0_5 h0_6 h0_7 h0_8 h0_9 h0_10 h0_11 h0_12 h0_13 (h3 ++ [[L.str h0_1], [L.str h0_2]])))
                 none)
                (cond (h0_0 == 6)
                 (cond (i64B h0_5 && Nat.ble (List.length h3) 10000000)
                  (G (pline_q48 h0_0 h0_1 h0_2 h0_3 h0_4 h0_5 h0_6 h0_7 h0_8 h0_9 h0_10 h0_11 h0_12 h0_13 (h3 ++ eSs (List.map it [h0_5]))))
                  none)
                 (cond (h0_0 == 11)
                  (cond (i64B h0_5 && Nat.ble (List.length h3) 10000000)
                   (G (pline_q48 h0_0 h0_1 h0_2 h0_3 h0_4 h0_5 h0_6 h0_7 h0_8 h0_9 h0_10 h0_11 h0_12 h0_13 (h3 ++ eSs (List.map it [h0_5]))))
                   none)
                  (cond (h0_0 == 14)
                   (cond (i64B h0_5 && Nat.ble (List.length h3) 10000000)
                    (G (pline_q48 h0_0 h0_1 h0_2 h0_3 h0_4 h0_5 h0_6 h0_7 h0_8 h0_9 h0_10 h0_11 h0_12 h0_13 (h3 ++ eSs (List.map it [h0_5]))))
                    none)
                   (cond (h0_0 == 15)
                    (cond (i64B h0_5 && i64B h0_6 && Nat.ble (List.length h3) 10000000)
                     (G (pline_q48 h0_0 h0_1 h0_2 h0_3 h0_4 h0_5 h0_6 h0_7 h0_8 h0_9 h0_10 h0_11 h0_12 h0_13 (h3 ++ eSs (List.map it [h0_5, h0_6]))))
                     none)
                    (cond (h0_0 == 17)
                     (cond (i64B h0_5 && i64B h0_6 && Nat.ble (List.length h3) 10000000)
                      (G (pline_q48 h0_0 h0_1 h0_2 h0_3 h0_4 h0_5 h0_6 h0_7 h0_8 h0_9 h0_10 h0_11 h0_12 h0_13 (h3 ++ eSs (List.map it [h0_5, h0_6]))))
                      none)
                     (cond (h0_0 == 18)
                      (cond (i64B h0_5 && i64B h0_6 && Nat.ble (List.length h3) 10000000)
                       (G (pline_q48 h0_0 h0_1 h0_2 h0_3 h0_4 h0_5 h0_6 h0_7 h0_8 h0_9 h0_10 h0_11 h0_12 h0_13 (h3 ++ eSs (List.map it [h0_5, h0_6]))))
                       none)
                      (cond (h0_0 == 16)
                       (cond (i64B h0_5 && (i64B h0_6 && i64B h0_7) && Nat.ble (List.length h3) 10000000)
                        (G (pline_q48 h0_0 h0_1 h0_2 h0_3 h0_4 h0_5 h0_6 h0_7 h0_8 h0_9 h0_10 h0_11 h0_12 h0_13 (h3 ++ eSs (List.map it [h0_5, h0_6, h0_7]))))
                        none)
                       (cond (h0_0 == 19)
                        (cond (i64B h0_5 && (i64B h0_6 && i64B h0_7) && Nat.ble (List.length h3) 10000000)
                         (G (pline_q48 h0_0 h0_1 h0_2 h0_3 h0_4 h0_5 h0_6 h0_7 h0_8 h0_9 h0_10 h0_11 h0_12 h0_13 (h3 ++ eSs (List.map it [h0_5, h0_6, h0_7]))))
                         none)
                        (G (pline_q48 h0_0 h0_1 h0_2 h0_3 h0_4 h0_5 h0_6 h0_7 h0_8 h0_9 h0_10 h0_11 h0_12 h0_13 h3)))))))))))))))))))))))
   (anyOf h2l fun en lf =>
    (cond (Prod.snd en == h0_0)
     (cond (roomN (List.length h3 + 1) 16)
      (G (pline_q3 h0_0 h0_1 h0_2 h0_3 h0_4 h0_5 h0_6 h0_7 h0_8 h0_9 h0_10 h0_11 h0_12 h0_13 h2m lf (some en) (h3 ++ [[L.str (Prod.fst en)]])))
      none)
     (G (pline_q3 h0_0 h0_1 h0_2 h0_3 h0_4 h0_5 h0_6 h0_7 h0_8 h0_9 h0_10 h0_11 h0_12 h0_13 h2m lf (some en) h3))))) := by kernel_rfl
theorem pline_p48 (G : Req → R) (h0_0 : Int) (h0_1 : ByteArray) (h0_2 : ByteArray) (h0_3 : ByteArray) (h0_4 : Int) (h0_5 : Int) (h0_6 : Int) (h0_7 : Int) (h0_8 : ByteArray) (h0_9 : ByteArray) (h0_10 : List (List L)) (h0_11 : List (List L)) (h0_12 : List (List L)) (h0_13 : List (List L)) (h2 : List (List L)) : runB (cfg [k_commands, k_add, k_num, k_listed, k_pquote, k_Join, k_pevent, k_Cont, k_psame]) G (pline_q48 h0_0 h0_1 h0_2 h0_3 h0_4 h0_5 h0_6 h0_7 h0_8 h0_9 h0_10 h0_11 h0_12 h0_13 h2) =
  (cond (Nat.ble (List.length h2) 1000000 && (Nat.ble (List.length (jn (dSs h2))) 100000000 && true))
   (cond (sm (ByteArray.size (mk (jn (dSs h2)))))
    (cond (Prod.snd (evL pOps (bl (mk (jn (dSs h2))))) != 0)
     (some [(.str (mk [])), (.int IntKind.i64 (1))])
     (cond (Nat.ble (ByteArray.size (mk (jn (dSs h2)))) 1000000000 && true)
      (cond (List.contains (bl (mk (jn (dSs h2)))) 10)
       (some [(.str (mk [])), (.int IntKind.i64 (1))])
       (cond (isLs (eIs (Ev.users (Prod.fst (evL pOps (bl (mk (jn (dSs h2)))))))) (eSs (Ev.groups (Prod.fst (evL pOps (bl (mk (jn (dSs h2)))))))) (eRs (Ev.rules (Prod.fst (evL pOps (bl (mk (jn (dSs h2)))))))) (eWs (Ev.writes (Prod.fst (evL pOps (bl (mk (jn (dSs h2)))))))) && (isLs h0_10 h0_11 h0_12 h0_13 && smE (Ev.mk h0_0 (bl h0_1) (bl h0_2) (bl h0_3) h0_4 h0_5 h0_6 h0_7 (bl h0_8) (bl h0_9) (dIs h0_10) (dSs h0_11) (dRs h0_12) (dWs h0_13))))
        (cond (!decide (Ev.mk (Ev.kind (Prod.fst (evL pOps (bl (mk (jn (dSs h2))))))) (bl (mk (Ev.repo (Prod.fst (evL pOps (bl (mk (jn (dSs h2))))))))) (bl (mk (Ev.name (Prod.fst (evL pOps (bl (mk (jn (dSs h2))))))))) (bl (mk (Ev.other (Prod.fst (evL pOps (bl (mk (jn (dSs h2))))))))) (Ev.who (Prod.fst (evL pOps (bl (mk (jn (dSs h2))))))) (Ev.n (Prod.fst (evL pOps (bl (mk (jn (dSs h2))))))) (Ev.m (Prod.fst (evL pOps (bl (mk (jn (dSs h2))))))) (Ev.k (Prod.fst (evL pOps (bl (mk (jn (dSs h2))))))) (bl (mk (Ev.text (Prod.fst (evL pOps (bl (mk (jn (dSs h2))))))))) (bl (mk (Ev.gname (Prod.fst (evL pOps (bl (mk (jn (dSs h2))))))))) (dIs (eIs (Ev.users (Prod.fst (evL pOps (bl (mk (jn (dSs h2))))))))) (dSs (eSs (Ev.groups (Prod.fst (evL pOps (bl (mk (jn (dSs h2))))))))) (dRs (eRs (Ev.rules (Prod.fst (evL pOps (bl (mk (jn (dSs h2))))))))) (dWs (eWs (Ev.writes (Prod.fst (evL pOps (bl (mk (jn (dSs h2))))))))) = Ev.mk h0_0 (bl h0_1) (bl h0_2) (bl h0_3) h0_4 h0_5 h0_6 h0_7 (bl h0_8) (bl h0_9) (dIs h0_10) (dSs h0_11) (dRs h0_12) (dWs h0_13)))
         (some [(.str (mk [])), (.int IntKind.i64 (1))])
         (cond (ltI 8000 (↑(ByteArray.size (mk (jn (dSs h2)))) : Int))
          (some [(.str (mk [])), (.int IntKind.i64 (1))])
          (some [(.str (mk (jn (dSs h2)))), (.int IntKind.i64 (0))])))
        none))
      none))
    none)
   none) := by kernel_rfl

end Go.Ab
namespace Go.Ab
open Go.Proofs
/-! codesearch/script.Line$1 -/
theorem padd_e (G : Req → R) (xs : List (List L)) (ls : List (List L)) : runB (cfg []) G (.enter 29 [(.lf (.lst 9 xs)), (.lf (.ptr 0 0))] [(.box [(.sl 9)] [(.row (1))]), (.row 9 ls true)]) =
  (cond (roomN (List.length ls + List.length xs) 16)
   (some [(.lst 9 (ls ++ xs))])
   none) := by kernel_rfl

/-! codesearch/script.Line$2 -/
theorem pnum1_e (G : Req → R) (a : Int) (ls : List (List L)) : runB (cfg [k_add, k_Itoa]) G (.enter 30 [(.lf (.lst 3 [[(.int IntKind.i64 (a))]])), (.lf (.ptr 0 0))] [(.box [.oth] [(.clo 29 [(.ptr 1 0)])]), (.box [(.sl 9)] [(.row (2))]), (.row 9 ls true)]) =
  (dupN 1
   (cond (i64B a)
    (cond (sm 1 && Nat.ble (List.length ls) 100000000)
     (some [.any, (.lst 9 (ls ++ [[L.str (mk (it a))]]))])
     none)
    none)) := by kernel_rfl

/-! codesearch/script.Line$2 -/
theorem pnum2_e (G : Req → R) (a : Int) (b : Int) (ls : List (List L)) : runB (cfg [k_add, k_Itoa]) G (.enter 30 [(.lf (.lst 3 [[(.int IntKind.i64 (a))], [(.int IntKind.i64 (b))]])), (.lf (.ptr 0 0))] [(.box [.oth] [(.clo 29 [(.ptr 1 0)])]), (.box [(.sl 9)] [(.row (2))]), (.row 9 ls true)]) =
  (dupN 1
   (cond (i64B a)
    (cond (sm 1 && Nat.ble (List.length ls) 100000000)
     (dupN 1
      (cond (i64B b)
       (cond (sm 1 && Nat.ble (List.length (ls ++ [[L.str (mk (it a))]])) 100000000)
        (some [.any, (.lst 9 (ls ++ [[L.str (mk (it a))]] ++ [[L.str (mk (it b))]]))])
        none)
       none))
     none)
    none)) := by kernel_rfl

/-! codesearch/script.Line$2 -/
theorem pnum3_e (G : Req → R) (a : Int) (b : Int) (c : Int) (ls : List (List L)) : runB (cfg [k_add, k_Itoa]) G (.enter 30 [(.lf (.lst 3 [[(.int IntKind.i64 (a))], [(.int IntKind.i64 (b))], [(.int IntKind.i64 (c))]])), (.lf (.ptr 0 0))] [(.box [.oth] [(.clo 29 [(.ptr 1 0)])]), (.box [(.sl 9)] [(.row (2))]), (.row 9 ls true)]) =
  (dupN 1
   (cond (i64B a)
    (cond (sm 1 && Nat.ble (List.length ls) 100000000)
     (dupN 1
      (cond (i64B b)
       (cond (sm 1 && Nat.ble (List.length (ls ++ [[L.str (mk (it a))]])) 100000000)
        (dupN 1
         (cond (i64B c)
          (cond (sm 1 && Nat.ble (List.length (ls ++ [[L.str (mk (it a))]] ++ [[L.str (mk (it b))]])) 100000000)
           (some [.any, (.lst 9 (ls ++ [[L.str (mk (it a))]] ++ [[L.str (mk (it b))]] ++ [[L.str (mk (it c))]]))])
           none)
          none))
        none)
       none))
     none)
    none)) := by kernel_rfl

end Go.Ab
namespace Go.Ab
open Go.Proofs
/-! codesearch/script.listed -/
noncomputable def listed_q16 (x56 : List (List L)) (x57 : Int) (x58 : Int) (h3 : List (List L)) : Req := .point 31 [(.box [(.sl 9)] [.any]), (.box [.oth] [(.clo 29 [(.ptr 0 0)])]), .no] (todoAt Tryz.prog 31 16) ⟨[an, (.lf (.clo 29 [(.ptr 0 0)])), an, an, an, an, an, an, an, an, an, an, an, an, an, an, an, an, an, an, an, an, an, an, an, an, an, an, an, an, an, an, an, an, an, an, an, an, an, an, an, an, an, an, an, an, an, an, an, an, an, an, an, an, an, an, (.lf (.lst 51 x56)), (.lf (.int IntKind.i64 x57)), (.lf (.int IntKind.i64 x58)), an, an, an, an, an, an, an, an, an, an, an, an, an, an, an, an, an, an, an, an, an, an, an, an, an, an, an, an, an, an, an, an, an, an, an, an, an, an, an, an, an, an, an, an, an, an, an, an, an, an, an, an, an, an, an, an], [(.box [(.sl 9)] [(.row 3)]), (.box [.oth] [(.clo 29 [(.ptr 0 0)])]), .dead, (.row 9 h3 true)]⟩
noncomputable def listed_q25 (x88 : List (List L)) (x89 : Int) (x90 : Int) (h3_0 : Int) (h3_1 : ByteArray) (h3_2 : ByteArray) (h3_3 : ByteArray) (h3_4 : Int) (h3_5 : Int) (h3_6 : Int) (h3_7 : Int) (h3_8 : ByteArray) (h3_9 : ByteArray) (h3_10 : List (List L)) (h3_11 : List (List L)) (h3_12 : List (List L)) (h3_13 : List (List L)) (h4 : List (List L)) : Req := .point 31 [(.box [(.sl 9)] [.any]), (.box [.oth] [(.clo 29 [(.ptr 0 0)])]), .no] (todoAt Tryz.prog 31 25) ⟨[an, (.lf (.clo 29 [(.ptr 0 0)])), (.lf (.clo 30 [(.ptr 1 0)])), (.lf (.ptr 3 0)), an, an, an, an, an, an, an, an, an, an, an, an, an, an, an, an, an, an, an, an, an, an, an, an, an, an, an, an, an, an, an, an, an, an, an, an, an, an, an, an, an, an, an, an, an, an, an, an, an, an, an, an, an, an, an, an, an, an, an, an, an, an, an, an, an, an, an, an, an, an, an, an, an, an, an, an, an, an, an, an, an, an, an, an, (.lf (.lst 3 x88)), (.lf (.int IntKind.i64 x89)), (.lf (.int IntKind.i64 x90)), an, an, an, an, an, an, an, an, an, an, an, an, an, an, an, an, an, an, an, an, an, an, an, an], [(.box [(.sl 9)] [(.row 4)]), (.box [.oth] [(.clo 29 [(.ptr 0 0)])]), .dead, (.box [(.int IntKind.i64), .str, .str, .str, (.int IntKind.i64), (.int IntKind.i64), (.int IntKind.i64), (.int IntKind.i64), .str, .str, (.sl 3), (.sl 9), (.sl 65), (.sl 51)] [(.int IntKind.i64 h3_0), (.str h3_1), (.str h3_2), (.str h3_3), (.int IntKind.i64 h3_4), (.int IntKind.i64 h3_5), (.int IntKind.i64 h3_6), (.int IntKind.i64 h3_7), (.str h3_8), (.str h3_9), (.lst 3 h3_10), (.lst 9 h3_11), (.lst 65 h3_12), (.lst 51 h3_13)]), (.row 9 h4 true)]⟩
noncomputable def listed_q11 (x19 : List (List L)) (x20 : Int) (x21 : Int) (h3 : List (List L)) : Req := .point 31 [(.box [(.sl 9)] [.any]), (.box [.oth] [(.clo 29 [(.ptr 0 0)])]), .no] (todoAt Tryz.prog 31 11) ⟨[an, (.lf (.clo 29 [(.ptr 0 0)])), an, an, an, an, an, an, an, an, an, an, an, an, an, an, an, an, an, (.lf (.lst 65 x19)), (.lf (.int IntKind.i64 x20)), (.lf (.int IntKind.i64 x21)), an, an, an, an, an, an, an, an, an, an, an, an, an, an, an, an, an, an, an, an, an, an, an, an, an, an, an, an, an, an, an, an, an, an, an, an, an, an, an, an, an, an, an, an, an, an, an, an, an, an, an, an, an, an, an, an, an, an, an, an, an, an, an, an, an, an, an, an, an, an, an, an, an, an, an, an, an, an, an, an, an, an, an, an, an, an, an, an, an, an, an, an, an], [(.box [(.sl 9)] [(.row 3)]), (.box [.oth] [(.clo 29 [(.ptr 0 0)])]), .dead, (.row 9 h3 true)]⟩
noncomputable def listed_q31 (x104 : List (List L)) (x105 : Int) (x106 : Int) (h3 : List (List L)) : Req := .point 31 [(.box [(.sl 9)] [.any]), (.box [.oth] [(.clo 29 [(.ptr 0 0)])]), .no] (todoAt Tryz.prog 31 31) ⟨[an, (.lf (.clo 29 [(.ptr 0 0)])), an, an, an, an, an, an, an, an, an, an, an, an, an, an, an, an, an, an, an, an, an, an, an, an, an, an, an, an, an, an, an, an, an, an, an, an, an, an, an, an, an, an, an, an, an, an, an, an, an, an, an, an, an, an, an, an, an, an, an, an, an, an, an, an, an, an, an, an, an, an, an, an, an, an, an, an, an, an, an, an, an, an, an, an, an, an, an, an, an, an, an, an, an, an, an, an, an, an, an, an, an, an, (.lf (.lst 9 x104)), (.lf (.int IntKind.i64 x105)), (.lf (.int IntKind.i64 x106)), an, an, an, an, an, an, an, an], [(.box [(.sl 9)] [(.row 3)]), (.box [.oth] [(.clo 29 [(.ptr 0 0)])]), .dead, (.row 9 h3 true)]⟩
theorem listed_e (G : Req → R) (k : Int) (a1 : ByteArray) (a2 : ByteArray) (a3 : ByteArray) (a4 : Int) (a5 : Int) (a6 : Int) (a7 : Int) (a8 : ByteArray) (a9 : ByteArray) (us : List (List L)) (gs : List (List L)) (rs : List (List L)) (ws : List (List L)) (ls : List (List L)) : runB (cfg [k_add, k_num, k_pquote]) G (.enter 31 [(.agg [(.int IntKind.i64 (k)), (.str (a1)), (.str (a2)), (.str (a3)), (.int IntKind.i64 (a4)), (.int IntKind.i64 (a5)), (.int IntKind.i64 (a6)), (.int IntKind.i64 (a7)), (.str (a8)), (.str (a9)), (.lst 3 us), (.lst 9 gs), (.lst 65 rs), (.lst 51 ws)]), (.lf (.clo 29 [(.ptr 0 0)])), (.lf (.clo 30 [(.ptr 1 0)]))] [(.box [(.sl 9)] [(.row (2))]), (.box [.oth] [(.clo 29 [(.ptr 0 0)])]), (.row 9 ls true)]) =
  (cond (k == 1)
   (cond (sm 2 && Nat.ble (List.length ls) 100000000)
    (cond (i64B a4 && Nat.ble (List.length (ls ++ [[L.str a1], [L.str a2]])) 10000000)
     (G (listed_q16 ws ((↑(List.length ws) : Int)) 0 (ls ++ [[L.str a1], [L.str a2]] ++ eSs (List.map it [a4]))))
     none)
    none)
   (cond (k == 7)
    (cond (sm 1 && Nat.ble (List.length ls) 100000000)
     (G (listed_q25 us ((↑(List.length us) : Int)) 0 k a1 a2 a3 a4 a5 a6 a7 a8 a9 us gs rs ws (ls ++ [[L.str a9]])))
     none)
    (cond (ltI 0 (↑(List.length rs) : Int))
     (cond (ltI 0 (↑(List.length rs) : Int))
      (cond (cO 0 (atL rs 0))
       (cond (bl (cT 2 (atL rs 0)) == bl (mk []))
        (cond (sm 4 && Nat.ble (List.length ls) 100000000)
         (G (listed_q11 rs ((↑(List.length rs) : Int)) 0 (ls ++ [[L.str (mk [97, 108, 108, 111, 119])], [L.str (cT 1 (atL rs 0))], [L.str (mk [45])], [L.str (cT 3 (atL rs 0))]])))
         none)
        (cond (sm 4 && Nat.ble (List.length ls) 100000000)
         (G (listed_q11 rs ((↑(List.length rs) : Int)) 0 (ls ++ [[L.str (mk [97, 108, 108, 111, 119])], [L.str (cT 1 (atL rs 0))], [L.str (cT 2 (atL rs 0))], [L.str (cT 3 (atL rs 0))]])))
         none))
       (cond (bl (cT 2 (atL rs 0)) == bl (mk []))
        (cond (sm 4 && Nat.ble (List.length ls) 100000000)
         (G (listed_q11 rs ((↑(List.length rs) : Int)) 0 (ls ++ [[L.str (mk [100, 101, 110, 121])], [L.str (cT 1 (atL rs 0))], [L.str (mk [45])], [L.str (cT 3 (atL rs 0))]])))
         none)
        (cond (sm 4 && Nat.ble (List.length ls) 100000000)
         (G (listed_q11 rs ((↑(List.length rs) : Int)) 0 (ls ++ [[L.str (mk [100, 101, 110, 121])], [L.str (cT 1 (atL rs 0))], [L.str (cT 2 (atL rs 0))], [L.str (cT 3 (atL rs 0))]])))
         none)))
      none)
     (some [(.lst 9 ls), .any])))) := by kernel_rfl
theorem listed_p16 (G : Req → R) (x56 : List (List L)) (x57 : Int) (x58 : Int) (h3 : List (List L)) : runB (cfg [k_add, k_num, k_pquote]) G (listed_q16 x56 x57 x58 h3) =
  (cond (ltI x58 x57)
   (cond (leI 0 x58 && ltI x58 (↑(List.length x56) : Int))
    (cond (cO 2 (atL x56 x58))
     (cond (sm 2 && Nat.ble (List.length h3) 100000000)
      (G (listed_q16 x56 x57 (wrapI IntKind.i64 (x58 + 1)) (h3 ++ [[L.str (mk [100, 101, 108])], [L.str (cT 0 (atL x56 x58))]])))
      none)
     (dupN 1
      (cond (sm (List.length (bl (cT 1 (atL x56 x58)))))
       (cond (sm 3 && Nat.ble (List.length h3) 100000000)
        (G (listed_q16 x56 x57 (wrapI IntKind.i64 (x58 + 1)) (h3 ++ [[L.str (mk [112, 117, 116])], [L.str (cT 0 (atL x56 x58))], [L.str (mk (qt (bl (cT 1 (atL x56 x58)))))]])))
        none)
       none)))
    none)
   (some [(.lst 9 h3), .any])) := by kernel_rfl
theorem listed_p25 (G : Req → R) (x88 : List (List L)) (x89 : Int) (x90 : Int) (h3_0 : Int) (h3_1 : ByteArray) (h3_2 : ByteArray) (h3_3 : ByteArray) (h3_4 : Int) (h3_5 : Int) (h3_6 : Int) (h3_7 : Int) (h3_8 : ByteArray) (h3_9 : ByteArray) (h3_10 : List (List L)) (h3_11 : List (List L)) (h3_12 : List (List L)) (h3_13 : List (List L)) (h4 : List (List L)) : runB (cfg [k_add, k_num, k_pquote]) G (listed_q25 x88 x89 x90 h3_0 h3_1 h3_2 h3_3 h3_4 h3_5 h3_6 h3_7 h3_8 h3_9 h3_10 h3_11 h3_12 h3_13 h4) =
  (cond (ltI x90 x89)
   (cond (leI 0 x90 && ltI x90 (↑(List.length x88) : Int))
    (cond (Nat.ble (List.length h4) 100000000)
     (cond (i64B (cI 0 (atL x88 x90)) && Nat.ble (List.length (h4 ++ [[L.str (mk [117, 115, 101, 114])]])) 10000000)
      (G (listed_q25 x88 x89 (wrapI IntKind.i64 (x90 + 1)) h3_0 h3_1 h3_2 h3_3 h3_4 h3_5 h3_6 h3_7 h3_8 h3_9 h3_10 h3_11 h3_12 h3_13 (h4 ++ [[L.str (mk [117, 115, 101, 114])]] ++ eSs (List.map it [cI 0 (atL x88 x90)]))))
      none)
     none)
    none)
   (G (listed_q31 h3_11 ((↑(List.length h3_11) : Int)) 0 h4))) := by kernel_rfl
theorem listed_p11 (G : Req → R) (x19 : List (List L)) (x20 : Int) (x21 : Int) (h3 : List (List L)) : runB (cfg [k_add, k_num, k_pquote]) G (listed_q11 x19 x20 x21 h3) =
  (cond (ltI (wrapI IntKind.i64 (x21 + 1)) x20)
   (cond (leI 0 (wrapI IntKind.i64 (x21 + 1)) && ltI (wrapI IntKind.i64 (x21 + 1)) (↑(List.length x19) : Int))
    (cond (cO 0 (atL x19 (wrapI IntKind.i64 (x21 + 1))))
     (cond (bl (cT 2 (atL x19 (wrapI IntKind.i64 (x21 + 1)))) == bl (mk []))
      (cond (sm 4 && Nat.ble (List.length h3) 100000000)
       (G (listed_q11 x19 x20 (wrapI IntKind.i64 (x21 + 1)) (h3 ++ [[L.str (mk [97, 108, 108, 111, 119])], [L.str (cT 1 (atL x19 (wrapI IntKind.i64 (x21 + 1))))], [L.str (mk [45])], [L.str (cT 3 (atL x19 (wrapI IntKind.i64 (x21 + 1))))]])))
       none)
      (cond (sm 4 && Nat.ble (List.length h3) 100000000)
       (G (listed_q11 x19 x20 (wrapI IntKind.i64 (x21 + 1)) (h3 ++ [[L.str (mk [97, 108, 108, 111, 119])], [L.str (cT 1 (atL x19 (wrapI IntKind.i64 (x21 + 1))))], [L.str (cT 2 (atL x19 (wrapI IntKind.i64 (x21 + 1))))], [L.str (cT 3 (atL x19 (wrapI IntKind.i64 (x21 + 1))))]])))
       none))
     (cond (bl (cT 2 (atL x19 (wrapI IntKind.i64 (x21 + 1)))) == bl (mk []))
      (cond (sm 4 && Nat.ble (List.length h3) 100000000)
       (G (listed_q11 x19 x20 (wrapI IntKind.i64 (x21 + 1)) (h3 ++ [[L.str (mk [100, 101, 110, 121])], [L.str (cT 1 (atL x19 (wrapI IntKind.i64 (x21 + 1))))], [L.str (mk [45])], [L.str (cT 3 (atL x19 (wrapI IntKind.i64 (x21 + 1))))]])))
       none)
      (cond (sm 4 && Nat.ble (List.length h3) 100000000)
       (G (listed_q11 x19 x20 (wrapI IntKind.i64 (x21 + 1)) (h3 ++ [[L.str (mk [100, 101, 110, 121])], [L.str (cT 1 (atL x19 (wrapI IntKind.i64 (x21 + 1))))], [L.str (cT 2 (atL x19 (wrapI IntKind.i64 (x21 + 1))))], [L.str (cT 3 (atL x19 (wrapI IntKind.i64 (x21 + 1))))]])))
       none)))
    none)
   (some [(.lst 9 h3), .any])) := by kernel_rfl
theorem listed_p31 (G : Req → R) (x104 : List (List L)) (x105 : Int) (x106 : Int) (h3 : List (List L)) : runB (cfg [k_add, k_num, k_pquote]) G (listed_q31 x104 x105 x106 h3) =
  (cond (ltI x106 x105)
   (cond (leI 0 x106 && ltI x106 (↑(List.length x104) : Int))
    (cond (sm 2 && Nat.ble (List.length h3) 100000000)
     (G (listed_q31 x104 x105 (wrapI IntKind.i64 (x106 + 1)) (h3 ++ [[L.str (mk [103, 114, 111, 117, 112])], [L.str (cT 0 (atL x104 x106))]])))
     none)
    none)
   (some [(.lst 9 h3), .any])) := by kernel_rfl

end Go.Ab
namespace Go.Ab
open Go.Proofs
/-! slices.Equal[[]int,int] -/
noncomputable def eqI_q4 (s10 : List (List L)) (s21 : List (List L)) (x12 : Int) (x13 : Int) : Req := .point 53 [] (todoAt Tryz.prog 53 4) ⟨[(.lf (.lst 3 s10)), (.lf (.lst 3 s21)), an, an, an, an, an, an, an, an, an, an, (.lf (.int IntKind.i64 x12)), (.lf (.int IntKind.i64 x13)), an, an, an, an, an, an, an, an, an, an, an, an], []⟩
theorem eqI_e (G : Req → R) (s10 : List (List L)) (s21 : List (List L)) : runB (cfg []) G (.enter 53 [(.lf (.lst 3 s10)), (.lf (.lst 3 s21))] []) =
  (cond ((↑(List.length s10) : Int) != (↑(List.length s21) : Int))
   (some [(.bool (false))])
   (G (eqI_q4 s10 s21 ((↑(List.length s10) : Int)) 0))) := by kernel_rfl
theorem eqI_p4 (G : Req → R) (s10 : List (List L)) (s21 : List (List L)) (x12 : Int) (x13 : Int) : runB (cfg []) G (eqI_q4 s10 s21 x12 x13) =
  (cond (ltI x13 x12)
   (cond (leI 0 x13 && ltI x13 (↑(List.length s10) : Int))
    (cond (leI 0 x13 && ltI x13 (↑(List.length s21) : Int))
     (cond (cI 0 (atL s10 x13) != cI 0 (atL s21 x13))
      (some [(.bool (false))])
      (G (eqI_q4 s10 s21 x12 (wrapI IntKind.i64 (x13 + 1)))))
     none)
    none)
   (some [(.bool (true))])) := by kernel_rfl

/-! slices.Equal[[]string,string] -/
noncomputable def eqS_q4 (s10 : List (List L)) (s21 : List (List L)) (x12 : Int) (x13 : Int) : Req := .point 54 [] (todoAt Tryz.prog 54 4) ⟨[(.lf (.lst 9 s10)), (.lf (.lst 9 s21)), an, an, an, an, an, an, an, an, an, an, (.lf (.int IntKind.i64 x12)), (.lf (.int IntKind.i64 x13)), an, an, an, an, an, an, an, an, an, an, an, an], []⟩
theorem eqS_e (G : Req → R) (s10 : List (List L)) (s21 : List (List L)) : runB (cfg []) G (.enter 54 [(.lf (.lst 9 s10)), (.lf (.lst 9 s21))] []) =
  (cond ((↑(List.length s10) : Int) != (↑(List.length s21) : Int))
   (some [(.bool (false))])
   (G (eqS_q4 s10 s21 ((↑(List.length s10) : Int)) 0))) := by kernel_rfl
theorem eqS_p4 (G : Req → R) (s10 : List (List L)) (s21 : List (List L)) (x12 : Int) (x13 : Int) : runB (cfg []) G (eqS_q4 s10 s21 x12 x13) =
  (cond (ltI x13 x12)
   (cond (leI 0 x13 && ltI x13 (↑(List.length s10) : Int))
    (cond (leI 0 x13 && ltI x13 (↑(List.length s21) : Int))
     (cond (!bl (cT 0 (atL s10 x13)) == bl (cT 0 (atL s21 x13)))
      (some [(.bool (false))])
      (G (eqS_q4 s10 s21 x12 (wrapI IntKind.i64 (x13 + 1)))))
     none)
    none)
   (some [(.bool (true))])) := by kernel_rfl

/-! slices.Equal[[]codesearch/api.Rule,codesearch/api.Rule] -/
noncomputable def eqR_q4 (s10 : List (List L)) (s21 : List (List L)) (x12 : Int) (x13 : Int) : Req := .point 55 [] (todoAt Tryz.prog 55 4) ⟨[(.lf (.lst 65 s10)), (.lf (.lst 65 s21)), an, an, an, an, an, an, an, an, an, an, (.lf (.int IntKind.i64 x12)), (.lf (.int IntKind.i64 x13)), an, an, an, an, an, an, an, an, an, an, an, an], []⟩
theorem eqR_e (G : Req → R) (s10 : List (List L)) (s21 : List (List L)) : runB (cfg []) G (.enter 55 [(.lf (.lst 65 s10)), (.lf (.lst 65 s21))] []) =
  (cond ((↑(List.length s10) : Int) != (↑(List.length s21) : Int))
   (some [(.bool (false))])
   (G (eqR_q4 s10 s21 ((↑(List.length s10) : Int)) 0))) := by kernel_rfl
theorem eqR_p4 (G : Req → R) (s10 : List (List L)) (s21 : List (List L)) (x12 : Int) (x13 : Int) : runB (cfg []) G (eqR_q4 s10 s21 x12 x13) =
  (cond (ltI x13 x12)
   (cond (leI 0 x13 && ltI x13 (↑(List.length s10) : Int))
    (cond (leI 0 x13 && ltI x13 (↑(List.length s21) : Int))
     (cond (!(cO 0 (atL s10 x13) == cO 0 (atL s21 x13) && (bl (cT 1 (atL s10 x13)) == bl (cT 1 (atL s21 x13)) && (bl (cT 2 (atL s10 x13)) == bl (cT 2 (atL s21 x13)) && (bl (cT 3 (atL s10 x13)) == bl (cT 3 (atL s21 x13)) && true)))))
      (some [(.bool (false))])
      (G (eqR_q4 s10 s21 x12 (wrapI IntKind.i64 (x13 + 1)))))
     none)
    none)
   (some [(.bool (true))])) := by kernel_rfl

/-! slices.Equal[[]codesearch/api.Write,codesearch/api.Write] -/
noncomputable def eqW_q4 (s10 : List (List L)) (s21 : List (List L)) (x12 : Int) (x13 : Int) : Req := .point 56 [] (todoAt Tryz.prog 56 4) ⟨[(.lf (.lst 51 s10)), (.lf (.lst 51 s21)), an, an, an, an, an, an, an, an, an, an, (.lf (.int IntKind.i64 x12)), (.lf (.int IntKind.i64 x13)), an, an, an, an, an, an, an, an, an, an, an, an], []⟩
theorem eqW_e (G : Req → R) (s10 : List (List L)) (s21 : List (List L)) : runB (cfg []) G (.enter 56 [(.lf (.lst 51 s10)), (.lf (.lst 51 s21))] []) =
  (cond ((↑(List.length s10) : Int) != (↑(List.length s21) : Int))
   (some [(.bool (false))])
   (G (eqW_q4 s10 s21 ((↑(List.length s10) : Int)) 0))) := by kernel_rfl
theorem eqW_p4 (G : Req → R) (s10 : List (List L)) (s21 : List (List L)) (x12 : Int) (x13 : Int) : runB (cfg []) G (eqW_q4 s10 s21 x12 x13) =
  (cond (ltI x13 x12)
   (cond (leI 0 x13 && ltI x13 (↑(List.length s10) : Int))
    (cond (leI 0 x13 && ltI x13 (↑(List.length s21) : Int))
     (cond (!(bl (cT 0 (atL s10 x13)) == bl (cT 0 (atL s21 x13)) && (bl (cT 1 (atL s10 x13)) == bl (cT 1 (atL s21 x13)) && (cO 2 (atL s10 x13) == cO 2 (atL s21 x13) && true))))
      (some [(.bool (false))])
      (G (eqW_q4 s10 s21 x12 (wrapI IntKind.i64 (x13 + 1)))))
     none)
    none)
   (some [(.bool (true))])) := by kernel_rfl

/-! codesearch/script.same -/
theorem psame_e (G : Req → R) (a0_0 : Int) (a0_1 : ByteArray) (a0_2 : ByteArray) (a0_3 : ByteArray) (a0_4 : Int) (a0_5 : Int) (a0_6 : Int) (a0_7 : Int) (a0_8 : ByteArray) (a0_9_0 : ByteArray) (a0_9_1 : List (List L)) (a0_9_2 : List (List L)) (a0_10 : List (List L)) (a0_11 : List (List L)) (b1_0 : Int) (b1_1 : ByteArray) (b1_2 : ByteArray) (b1_3 : ByteArray) (b1_4 : Int) (b1_5 : Int) (b1_6 : Int) (b1_7 : Int) (b1_8 : ByteArray) (b1_9_0 : ByteArray) (b1_9_1 : List (List L)) (b1_9_2 : List (List L)) (b1_10 : List (List L)) (b1_11 : List (List L)) : runB (cfg [k_eqI, k_eqS, k_eqR, k_eqW]) G (.enter 34 [(.agg [(.int IntKind.i64 (a0_0)), (.str (a0_1)), (.str (a0_2)), (.str (a0_3)), (.int IntKind.i64 (a0_4)), (.int IntKind.i64 (a0_5)), (.int IntKind.i64 (a0_6)), (.int IntKind.i64 (a0_7)), (.str (a0_8)), (.str (a0_9_0)), (.lst 3 a0_9_1), (.lst 9 a0_9_2), (.lst 65 a0_10), (.lst 51 a0_11)]), (.agg [(.int IntKind.i64 (b1_0)), (.str (b1_1)), (.str (b1_2)), (.str (b1_3)), (.int IntKind.i64 (b1_4)), (.int IntKind.i64 (b1_5)), (.int IntKind.i64 (b1_6)), (.int IntKind.i64 (b1_7)), (.str (b1_8)), (.str (b1_9_0)), (.lst 3 b1_9_1), (.lst 9 b1_9_2), (.lst 65 b1_10), (.lst 51 b1_11)])] []) =
  (cond (a0_0 == b1_0)
   (cond (bl a0_1 == bl b1_1)
    (cond (bl a0_2 == bl b1_2)
     (cond (bl a0_3 == bl b1_3)
      (cond (a0_4 == b1_4)
       (cond (a0_5 == b1_5)
        (cond (a0_6 == b1_6)
         (cond (a0_7 == b1_7)
          (cond (bl a0_8 == bl b1_8)
           (cond (bl a0_9_0 == bl b1_9_0)
            (cond (isLs a0_9_1 [] [] [] && (isLs b1_9_1 [] [] [] && sm (List.length b1_9_1)))
             (cond (decide (dIs a0_9_1 = dIs b1_9_1))
              (cond (isLs [] a0_9_2 [] [] && (isLs [] b1_9_2 [] [] && sm (List.length b1_9_2)))
               (cond (decide (dSs a0_9_2 = dSs b1_9_2))
                (cond (isLs [] [] a0_10 [] && (isLs [] [] b1_10 [] && sm (List.length b1_10)))
                 (cond (decide (dRs a0_10 = dRs b1_10))
                  (cond (isLs [] [] [] a0_11 && (isLs [] [] [] b1_11 && sm (List.length b1_11)))
                   (some [(.bool (decide (dWs a0_11 = dWs b1_11)))])
                   none)
                  (some [(.bool (false))]))
                 none)
                (some [(.bool (false))]))
               none)
              (some [(.bool (false))]))
             none)
            (some [(.bool (false))]))
           (some [(.bool (false))]))
          (some [(.bool (false))]))
         (some [(.bool (false))]))
        (some [(.bool (false))]))
       (some [(.bool (false))]))
      (some [(.bool (false))]))
     (some [(.bool (false))]))
    (some [(.bool (false))]))
   (some [(.bool (false))])) := by kernel_rfl

/-! codesearch/codesearchref54.Same -/
noncomputable def rsame_q6 (i5 : Int) (h0_0 : Int) (h0_1 : ByteArray) (h0_2 : ByteArray) (h0_3 : ByteArray) (h0_4 : Int) (h0_5 : Int) (h0_6 : Int) (h0_7 : Int) (h0_8 : ByteArray) (h0_9 : ByteArray) (h0_10 : List (List L)) (h0_11 : List (List L)) (h0_12 : List (List L)) (h0_13 : List (List L)) (h1_0 : Int) (h1_1 : ByteArray) (h1_2 : ByteArray) (h1_3 : ByteArray) (h1_4 : Int) (h1_5 : Int) (h1_6 : Int) (h1_7 : Int) (h1_8 : ByteArray) (h1_9 : ByteArray) (h1_10 : List (List L)) (h1_11 : List (List L)) (h1_12 : List (List L)) (h1_13 : List (List L)) : Req := .point 22 [] (todoAt Tryz.prog 22 6) ⟨[an, an, (.lf (.ptr 0 0)), (.lf (.ptr 1 0)), an, (.lf (.int IntKind.i64 i5)), an, an, an, an, an, an, an, an, an, an, an, an, an, an, an, an, an, an, an, an, an, an, an, an, an, an, an, an, an, an, an, an, an, an, an, an, an, an, an, an, an, an, an, an, an, an, an, an, an, an, an, an, an, an, an, an, an, an, an, an, an, an, an, an, an, an, an, an, an, an, an, an, an, an, an, an, an, an, an, an, an, an, an, an, an, an, an, an, an, an, an, an, an, an, an, an, an, an, an, an, an, an, an, an, an, an, an, an, an, an, an, an, an, an, an, an, an, an, an, an, an, an, an, an, an, an, an, an, an, an, an, an, an, an, an, an, an, an, an, an, an, an, an, an, an, an, an, an, an, an, an, an, an, an, an, an, an, an, an, an, an, an, an, an, an, an, an, an, an, an, an, an, an, an, an, an, an, an, an, an, an, an, an, an, an, an, an, an, an], [(.box [(.int IntKind.i64), .str, .str, .str, (.int IntKind.i64), (.int IntKind.i64), (.int IntKind.i64), (.int IntKind.i64), .str, .str, (.sl 3), (.sl 9), (.sl 65), (.sl 51)] [(.int IntKind.i64 h0_0), (.str h0_1), (.str h0_2), (.str h0_3), (.int IntKind.i64 h0_4), (.int IntKind.i64 h0_5), (.int IntKind.i64 h0_6), (.int IntKind.i64 h0_7), (.str h0_8), (.str h0_9), (.lst 3 h0_10), (.lst 9 h0_11), (.lst 65 h0_12), (.lst 51 h0_13)]), (.box [(.int IntKind.i64), .str, .str, .str, (.int IntKind.i64), (.int IntKind.i64), (.int IntKind.i64), (.int IntKind.i64), .str, .str, (.sl 3), (.sl 9), (.sl 65), (.sl 51)] [(.int IntKind.i64 h1_0), (.str h1_1), (.str h1_2), (.str h1_3), (.int IntKind.i64 h1_4), (.int IntKind.i64 h1_5), (.int IntKind.i64 h1_6), (.int IntKind.i64 h1_7), (.str h1_8), (.str h1_9), (.lst 3 h1_10), (.lst 9 h1_11), (.lst 65 h1_12), (.lst 51 h1_13)])]⟩
noncomputable def rsame_q11 (i6 : Int) (h0_0 : Int) (h0_1 : ByteArray) (h0_2 : ByteArray) (h0_3 : ByteArray) (h0_4 : Int) (h0_5 : Int) (h0_6 : Int) (h0_7 : Int) (h0_8 : ByteArray) (h0_9 : ByteArray) (h0_10 : List (List L)) (h0_11 : List (List L)) (h0_12 : List (List L)) (h0_13 : List (List L)) (h1_0 : Int) (h1_1 : ByteArray) (h1_2 : ByteArray) (h1_3 : ByteArray) (h1_4 : Int) (h1_5 : Int) (h1_6 : Int) (h1_7 : Int) (h1_8 : ByteArray) (h1_9 : ByteArray) (h1_10 : List (List L)) (h1_11 : List (List L)) (h1_12 : List (List L)) (h1_13 : List (List L)) : Req := .point 22 [] (todoAt Tryz.prog 22 11) ⟨[an, an, (.lf (.ptr 0 0)), (.lf (.ptr 1 0)), an, an, (.lf (.int IntKind.i64 i6)), an, an, an, an, an, an, an, an, an, an, an, an, an, an, an, an, an, an, an, an, an, an, an, an, an, an, an, an, an, an, an, an, an, an, an, an, an, an, an, an, an, an, an, an, an, an, an, an, an, an, an, an, an, an, an, an, an, an, an, an, an, an, an, an, an, an, an, an, an, an, an, an, an, an, an, an, an, an, an, an, an, an, an, an, an, an, an, an, an, an, an, an, an, an, an, an, an, an, an, an, an, an, an, an, an, an, an, an, an, an, an, an, an, an, an, an, an, an, an, an, an, an, an, an, an, an, an, an, an, an, an, an, an, an, an, an, an, an, an, an, an, an, an, an, an, an, an, an, an, an, an, an, an, an, an, an, an, an, an, an, an, an, an, an, an, an, an, an, an, an, an, an, an, an, an, an, an, an, an, an, an, an, an, an, an, an, an, an], [(.box [(.int IntKind.i64), .str, .str, .str, (.int IntKind.i64), (.int IntKind.i64), (.int IntKind.i64), (.int IntKind.i64), .str, .str, (.sl 3), (.sl 9), (.sl 65), (.sl 51)] [(.int IntKind.i64 h0_0), (.str h0_1), (.str h0_2), (.str h0_3), (.int IntKind.i64 h0_4), (.int IntKind.i64 h0_5), (.int IntKind.i64 h0_6), (.int IntKind.i64 h0_7), (.str h0_8), (.str h0_9), (.lst 3 h0_10), (.lst 9 h0_11), (.lst 65 h0_12), (.lst 51 h0_13)]), (.box [(.int IntKind.i64), .str, .str, .str, (.int IntKind.i64), (.int IntKind.i64), (.int IntKind.i64), (.int IntKind.i64), .str, .str, (.sl 3), (.sl 9), (.sl 65), (.sl 51)] [(.int IntKind.i64 h1_0), (.str h1_1), (.str h1_2), (.str h1_3), (.int IntKind.i64 h1_4), (.int IntKind.i64 h1_5), (.int IntKind.i64 h1_6), (.int IntKind.i64 h1_7), (.str h1_8), (.str h1_9), (.lst 3 h1_10), (.lst 9 h1_11), (.lst 65 h1_12), (.lst 51 h1_13)])]⟩
noncomputable def rsame_q16 (i7 : Int) (h0_0 : Int) (h0_1 : ByteArray) (h0_2 : ByteArray) (h0_3 : ByteArray) (h0_4 : Int) (h0_5 : Int) (h0_6 : Int) (h0_7 : Int) (h0_8 : ByteArray) (h0_9 : ByteArray) (h0_10 : List (List L)) (h0_11 : List (List L)) (h0_12 : List (List L)) (h0_13 : List (List L)) (h1_0 : Int) (h1_1 : ByteArray) (h1_2 : ByteArray) (h1_3 : ByteArray) (h1_4 : Int) (h1_5 : Int) (h1_6 : Int) (h1_7 : Int) (h1_8 : ByteArray) (h1_9 : ByteArray) (h1_10 : List (List L)) (h1_11 : List (List L)) (h1_12 : List (List L)) (h1_13 : List (List L)) : Req := .point 22 [] (todoAt Tryz.prog 22 16) ⟨[an, an, (.lf (.ptr 0 0)), (.lf (.ptr 1 0)), an, an, an, (.lf (.int IntKind.i64 i7)), an, an, an, an, an, an, an, an, an, an, an, an, an, an, an, an, an, an, an, an, an, an, an, an, an, an, an, an, an, an, an, an, an, an, an, an, an, an, an, an, an, an, an, an, an, an, an, an, an, an, an, an, an, an, an, an, an, an, an, an, an, an, an, an, an, an, an, an, an, an, an, an, an, an, an, an, an, an, an, an, an, an, an, an, an, an, an, an, an, an, an, an, an, an, an, an, an, an, an, an, an, an, an, an, an, an, an, an, an, an, an, an, an, an, an, an, an, an, an, an, an, an, an, an, an, an, an, an, an, an, an, an, an, an, an, an, an, an, an, an, an, an, an, an, an, an, an, an, an, an, an, an, an, an, an, an, an, an, an, an, an, an, an, an, an, an, an, an, an, an, an, an, an, an, an, an, an, an, an, an, an, an, an, an, an, an, an], [(.box [(.int IntKind.i64), .str, .str, .str, (.int IntKind.i64), (.int IntKind.i64), (.int IntKind.i64), (.int IntKind.i64), .str, .str, (.sl 3), (.sl 9), (.sl 65), (.sl 51)] [(.int IntKind.i64 h0_0), (.str h0_1), (.str h0_2), (.str h0_3), (.int IntKind.i64 h0_4), (.int IntKind.i64 h0_5), (.int IntKind.i64 h0_6), (.int IntKind.i64 h0_7), (.str h0_8), (.str h0_9), (.lst 3 h0_10), (.lst 9 h0_11), (.lst 65 h0_12), (.lst 51 h0_13)]), (.box [(.int IntKind.i64), .str, .str, .str, (.int IntKind.i64), (.int IntKind.i64), (.int IntKind.i64), (.int IntKind.i64), .str, .str, (.sl 3), (.sl 9), (.sl 65), (.sl 51)] [(.int IntKind.i64 h1_0), (.str h1_1), (.str h1_2), (.str h1_3), (.int IntKind.i64 h1_4), (.int IntKind.i64 h1_5), (.int IntKind.i64 h1_6), (.int IntKind.i64 h1_7), (.str h1_8), (.str h1_9), (.lst 3 h1_10), (.lst 9 h1_11), (.lst 65 h1_12), (.lst 51 h1_13)])]⟩
noncomputable def rsame_q21 (i8 : Int) (h0_0 : Int) (h0_1 : ByteArray) (h0_2 : ByteArray) (h0_3 : ByteArray) (h0_4 : Int) (h0_5 : Int) (h0_6 : Int) (h0_7 : Int) (h0_8 : ByteArray) (h0_9 : ByteArray) (h0_10 : List (List L)) (h0_11 : List (List L)) (h0_12 : List (List L)) (h0_13 : List (List L)) (h1_0 : Int) (h1_1 : ByteArray) (h1_2 : ByteArray) (h1_3 : ByteArray) (h1_4 : Int) (h1_5 : Int) (h1_6 : Int) (h1_7 : Int) (h1_8 : ByteArray) (h1_9 : ByteArray) (h1_10 : List (List L)) (h1_11 : List (List L)) (h1_12 : List (List L)) (h1_13 : List (List L)) : Req := .point 22 [] (todoAt Tryz.prog 22 21) ⟨[an, an, (.lf (.ptr 0 0)), (.lf (.ptr 1 0)), an, an, an, an, (.lf (.int IntKind.i64 i8)), an, an, an, an, an, an, an, an, an, an, an, an, an, an, an, an, an, an, an, an, an, an, an, an, an, an, an, an, an, an, an, an, an, an, an, an, an, an, an, an, an, an, an, an, an, an, an, an, an, an, an, an, an, an, an, an, an, an, an, an, an, an, an, an, an, an, an, an, an, an, an, an, an, an, an, an, an, an, an, an, an, an, an, an, an, an, an, an, an, an, an, an, an, an, an, an, an, an, an, an, an, an, an, an, an, an, an, an, an, an, an, an, an, an, an, an, an, an, an, an, an, an, an, an, an, an, an, an, an, an, an, an, an, an, an, an, an, an, an, an, an, an, an, an, an, an, an, an, an, an, an, an, an, an, an, an, an, an, an, an, an, an, an, an, an, an, an, an, an, an, an, an, an, an, an, an, an, an, an, an, an, an, an, an, an, an], [(.box [(.int IntKind.i64), .str, .str, .str, (.int IntKind.i64), (.int IntKind.i64), (.int IntKind.i64), (.int IntKind.i64), .str, .str, (.sl 3), (.sl 9), (.sl 65), (.sl 51)] [(.int IntKind.i64 h0_0), (.str h0_1), (.str h0_2), (.str h0_3), (.int IntKind.i64 h0_4), (.int IntKind.i64 h0_5), (.int IntKind.i64 h0_6), (.int IntKind.i64 h0_7), (.str h0_8), (.str h0_9), (.lst 3 h0_10), (.lst 9 h0_11), (.lst 65 h0_12), (.lst 51 h0_13)]), (.box [(.int IntKind.i64), .str, .str, .str, (.int IntKind.i64), (.int IntKind.i64), (.int IntKind.i64), (.int IntKind.i64), .str, .str, (.sl 3), (.sl 9), (.sl 65), (.sl 51)] [(.int IntKind.i64 h1_0), (.str h1_1), (.str h1_2), (.str h1_3), (.int IntKind.i64 h1_4), (.int IntKind.i64 h1_5), (.int IntKind.i64 h1_6), (.int IntKind.i64 h1_7), (.str h1_8), (.str h1_9), (.lst 3 h1_10), (.lst 9 h1_11), (.lst 65 h1_12), (.lst 51 h1_13)])]⟩
theorem rsame_e (G : Req → R) (a0_0 : Int) (a0_1 : ByteArray) (a0_2 : ByteArray) (a0_3 : ByteArray) (a0_4 : Int) (a0_5 : Int) (a0_6 : Int) (a0_7 : Int) (a0_8 : ByteArray) (a0_9_0 : ByteArray) (a0_9_1 : List (List L)) (a0_9_2 : List (List L)) (a0_10 : List (List L)) (a0_11 : List (List L)) (b1_0 : Int) (b1_1 : ByteArray) (b1_2 : ByteArray) (b1_3 : ByteArray) (b1_4 : Int) (b1_5 : Int) (b1_6 : Int) (b1_7 : Int) (b1_8 : ByteArray) (b1_9_0 : ByteArray) (b1_9_1 : List (List L)) (b1_9_2 : List (List L)) (b1_10 : List (List L)) (b1_11 : List (List L)) : runB (cfg []) G (.enter 22 [(.agg [(.int IntKind.i64 (a0_0)), (.str (a0_1)), (.str (a0_2)), (.str (a0_3)), (.int IntKind.i64 (a0_4)), (.int IntKind.i64 (a0_5)), (.int IntKind.i64 (a0_6)), (.int IntKind.i64 (a0_7)), (.str (a0_8)), (.str (a0_9_0)), (.lst 3 a0_9_1), (.lst 9 a0_9_2), (.lst 65 a0_10), (.lst 51 a0_11)]), (.agg [(.int IntKind.i64 (b1_0)), (.str (b1_1)), (.str (b1_2)), (.str (b1_3)), (.int IntKind.i64 (b1_4)), (.int IntKind.i64 (b1_5)), (.int IntKind.i64 (b1_6)), (.int IntKind.i64 (b1_7)), (.str (b1_8)), (.str (b1_9_0)), (.lst 3 b1_9_1), (.lst 9 b1_9_2), (.lst 65 b1_10), (.lst 51 b1_11)])] []) =
  (cond (a0_0 != b1_0)
   (some [(.bool (false))])
   (cond (!bl a0_1 == bl b1_1)
    (some [(.bool (false))])
    (cond (!bl a0_2 == bl b1_2)
     (some [(.bool (false))])
     (cond (!bl a0_3 == bl b1_3)
      (some [(.bool (false))])
      (cond (a0_4 != b1_4)
       (some [(.bool (false))])
       (cond (a0_5 != b1_5)
        (some [(.bool (false))])
        (cond (a0_6 != b1_6)
         (some [(.bool (false))])
         (cond (a0_7 != b1_7)
          (some [(.bool (false))])
          (cond (!bl a0_8 == bl b1_8)
           (some [(.bool (false))])
           (cond (!bl a0_9_0 == bl b1_9_0)
            (some [(.bool (false))])
            (cond ((↑(List.length a0_9_1) : Int) != (↑(List.length b1_9_1) : Int))
             (some [(.bool (false))])
             (cond ((↑(List.length a0_9_2) : Int) != (↑(List.length b1_9_2) : Int))
              (some [(.bool (false))])
              (cond ((↑(List.length a0_10) : Int) != (↑(List.length b1_10) : Int))
               (some [(.bool (false))])
               (cond ((↑(List.length a0_11) : Int) != (↑(List.length b1_11) : Int))
                (some [(.bool (false))])
                (G (rsame_q6 0 a0_0 a0_1 a0_2 a0_3 a0_4 a0_5 a0_6 a0_7 a0_8 a0_9_0 a0_9_1 a0_9_2 a0_10 a0_11 b1_0 b1_1 b1_2 b1_3 b1_4 b1_5 b1_6 b1_7 b1_8 b1_9_0 b1_9_1 b1_9_2 b1_10 b1_11)))))))))))))))) := by kernel_rfl
theorem rsame_p6 (G : Req → R) (i5 : Int) (h0_0 : Int) (h0_1 : ByteArray) (h0_2 : ByteArray) (h0_3 : ByteArray) (h0_4 : Int) (h0_5 : Int) (h0_6 : Int) (h0_7 : Int) (h0_8 : ByteArray) (h0_9 : ByteArray) (h0_10 : List (List L)) (h0_11 : List (List L)) (h0_12 : List (List L)) (h0_13 : List (List L)) (h1_0 : Int) (h1_1 : ByteArray) (h1_2 : ByteArray) (h1_3 : ByteArray) (h1_4 : Int) (h1_5 : Int) (h1_6 : Int) (h1_7 : Int) (h1_8 : ByteArray) (h1_9 : ByteArray) (h1_10 : List (List L)) (h1_11 : List (List L)) (h1_12 : List (List L)) (h1_13 : List (List L)) : runB (cfg []) G (rsame_q6 i5 h0_0 h0_1 h0_2 h0_3 h0_4 h0_5 h0_6 h0_7 h0_8 h0_9 h0_10 h0_11 h0_12 h0_13 h1_0 h1_1 h1_2 h1_3 h1_4 h1_5 h1_6 h1_7 h1_8 h1_9 h1_10 h1_11 h1_12 h1_13) =
  (cond (ltI i5 (↑(List.length h0_10) : Int))
   (cond (leI 0 i5 && ltI i5 (↑(List.length h0_10) : Int))
    (cond (leI 0 i5 && ltI i5 (↑(List.length h1_10) : Int))
     (cond (cI 0 (atL h0_10 i5) != cI 0 (atL h1_10 i5))
      (some [(.bool (false))])
      (G (rsame_q6 (wrapI IntKind.i64 (i5 + 1)) h0_0 h0_1 h0_2 h0_3 h0_4 h0_5 h0_6 h0_7 h0_8 h0_9 h0_10 h0_11 h0_12 h0_13 h1_0 h1_1 h1_2 h1_3 h1_4 h1_5 h1_6 h1_7 h1_8 h1_9 h1_10 h1_11 h1_12 h1_13)))
     none)
    none)
   (G (rsame_q11 0 h0_0 h0_1 h0_2 h0_3 h0_4 h0_5 h0_6 h0_7 h0_8 h0_9 h0_10 h0_11 h0_12 h0_13 h1_0 h1_1 h1_2 h1_3 h1_4 h1_5 h1_6 h1_7 h1_8 h1_9 h1_10 h1_11 h1_12 h1_13))) := by kernel_rfl
theorem rsame_p11 (G : Req → R) (i6 : Int) (h0_0 : Int) (h0_1 : ByteArray) (h0_2 : ByteArray) (h0_3 : ByteArray) (h0_4 : Int) (h0_5 : Int) (h0_6 : Int) (h0_7 : Int) (h0_8 : ByteArray) (h0_9 : ByteArray) (h0_10 : List (List L)) (h0_11 : List (List L)) (h0_12 : List (List L)) (h0_13 : List (List L)) (h1_0 : Int) (h1_1 : ByteArray) (h1_2 : ByteArray) (h1_3 : ByteArray) (h1_4 : Int) (h1_5 : Int) (h1_6 : Int) (h1_7 : Int) (h1_8 : ByteArray) (h1_9 : ByteArray) (h1_10 : List (List L)) (h1_11 : List (List L)) (h1_12 : List (List L)) (h1_13 : List (List L)) : runB (cfg []) G (rsame_q11 i6 h0_0 h0_1 h0_2 h0_3 h0_4 h0_5 h0_6 h0_7 h0_8 h0_9 h0_10 h0_11 h0_12 h0_13 h1_0 h1_1 h1_2 h1_3 h1_4 h1_5 h1_6 h1_7 h1_8 h1_9 h1_10 h1_11 h1_12 h1_13) =
  (cond (ltI i6 (↑(List.length h0_11) : Int))
   (cond (leI 0 i6 && ltI i6 (↑(List.length h0_11) : Int))
    (cond (leI 0 i6 && ltI i6 (↑(List.length h1_11) : Int))
     (cond (!bl (cT 0 (atL h0_11 i6)) == bl (cT 0 (atL h1_11 i6)))
      (some [(.bool (false))])
      (G (rsame_q11 (wrapI IntKind.i64 (i6 + 1)) h0_0 h0_1 h0_2 h0_3 h0_4 h0_5 h0_6 h0_7 h0_8 h0_9 h0_10 h0_11 h0_12 h0_13 h1_0 h1_1 h1_2 h1_3 h1_4 h1_5 h1_6 h1_7 h1_8 h1_9 h1_10 h1_11 h1_12 h1_13)))
     none)
    none)
   (G (rsame_q16 0 h0_0 h0_1 h0_2 h0_3 h0_4 h0_5 h0_6 h0_7 h0_8 h0_9 h0_10 h0_11 h0_12 h0_13 h1_0 h1_1 h1_2 h1_3 h1_4 h1_5 h1_6 h1_7 h1_8 h1_9 h1_10 h1_11 h1_12 h1_13))) := by kernel_rfl
theorem rsame_p16 (G : Req → R) (i7 : Int) (h0_0 : Int) (h0_1 : ByteArray) (h0_2 : ByteArray) (h0_3 : ByteArray) (h0_4 : Int) (h0_5 : Int) (h0_6 : Int) (h0_7 : Int) (h0_8 : ByteArray) (h0_9 : ByteArray) (h0_10 : List (List L)) (h0_11 : List (List L)) (h0_12 : List (List L)) (h0_13 : List (List L)) (h1_0 : Int) (h1_1 : ByteArray) (h1_2 : ByteArray) (h1_3 : ByteArray) (h1_4 : Int) (h1_5 : Int) (h1_6 : Int) (h1_7 : Int) (h1_8 : ByteArray) (h1_9 : ByteArray) (h1_10 : List (List L)) (h1_11 : List (List L)) (h1_12 : List (List L)) (h1_13 : List (List L)) : runB (cfg []) G (rsame_q16 i7 h0_0 h0_1 h0_2 h0_3 h0_4 h0_5 h0_6 h0_7 h0_8 h0_9 h0_10 h0_11 h0_12 h0_13 h1_0 h1_1 h1_2 h1_3 h1_4 h1_5 h1_6 h1_7 h1_8 h1_9 h1_10 h1_11 h1_12 h1_13) =
  (cond (ltI i7 (↑(List.length h0_12) : Int))
   (cond (leI 0 i7 && ltI i7 (↑(List.length h0_12) : Int))
    (cond (leI 0 i7 && ltI i7 (↑(List.length h1_12) : Int))
     (cond (!(cO 0 (atL h0_12 i7) == cO 0 (atL h1_12 i7) && (bl (cT 1 (atL h0_12 i7)) == bl (cT 1 (atL h1_12 i7)) && (bl (cT 2 (atL h0_12 i7)) == bl (cT 2 (atL h1_12 i7)) && (bl (cT 3 (atL h0_12 i7)) == bl (cT 3 (atL h1_12 i7)) && true)))))
      (some [(.bool (false))])
      (G (rsame_q16 (wrapI IntKind.i64 (i7 + 1)) h0_0 h0_1 h0_2 h0_3 h0_4 h0_5 h0_6 h0_7 h0_8 h0_9 h0_10 h0_11 h0_12 h0_13 h1_0 h1_1 h1_2 h1_3 h1_4 h1_5 h1_6 h1_7 h1_8 h1_9 h1_10 h1_11 h1_12 h1_13)))
     none)
    none)
   (G (rsame_q21 0 h0_0 h0_1 h0_2 h0_3 h0_4 h0_5 h0_6 h0_7 h0_8 h0_9 h0_10 h0_11 h0_12 h0_13 h1_0 h1_1 h1_2 h1_3 h1_4 h1_5 h1_6 h1_7 h1_8 h1_9 h1_10 h1_11 h1_12 h1_13))) := by kernel_rfl
theorem rsame_p21 (G : Req → R) (i8 : Int) (h0_0 : Int) (h0_1 : ByteArray) (h0_2 : ByteArray) (h0_3 : ByteArray) (h0_4 : Int) (h0_5 : Int) (h0_6 : Int) (h0_7 : Int) (h0_8 : ByteArray) (h0_9 : ByteArray) (h0_10 : List (List L)) (h0_11 : List (List L)) (h0_12 : List (List L)) (h0_13 : List (List L)) (h1_0 : Int) (h1_1 : ByteArray) (h1_2 : ByteArray) (h1_3 : ByteArray) (h1_4 : Int) (h1_5 : Int) (h1_6 : Int) (h1_7 : Int) (h1_8 : ByteArray) (h1_9 : ByteArray) (h1_10 : List (List L)) (h1_11 : List (List L)) (h1_12 : List (List L)) (h1_13 : List (List L)) : runB (cfg []) G (rsame_q21 i8 h0_0 h0_1 h0_2 h0_3 h0_4 h0_5 h0_6 h0_7 h0_8 h0_9 h0_10 h0_11 h0_12 h0_13 h1_0 h1_1 h1_2 h1_3 h1_4 h1_5 h1_6 h1_7 h1_8 h1_9 h1_10 h1_11 h1_12 h1_13) =
  (cond (ltI i8 (↑(List.length h0_13) : Int))
   (cond (leI 0 i8 && ltI i8 (↑(List.length h0_13) : Int))
    (cond (leI 0 i8 && ltI i8 (↑(List.length h1_13) : Int))
     (cond (!(bl (cT 0 (atL h0_13 i8)) == bl (cT 0 (atL h1_13 i8)) && (bl (cT 1 (atL h0_13 i8)) == bl (cT 1 (atL h1_13 i8)) && (cO 2 (atL h0_13 i8) == cO 2 (atL h1_13 i8) && true))))
      (some [(.bool (false))])
      (G (rsame_q21 (wrapI IntKind.i64 (i8 + 1)) h0_0 h0_1 h0_2 h0_3 h0_4 h0_5 h0_6 h0_7 h0_8 h0_9 h0_10 h0_11 h0_12 h0_13 h1_0 h1_1 h1_2 h1_3 h1_4 h1_5 h1_6 h1_7 h1_8 h1_9 h1_10 h1_11 h1_12 h1_13)))
     none)
    none)
   (some [(.bool (true))])) := by kernel_rfl

/-! codesearch/codesearchref54.SameList -/
noncomputable def sameList_q4 (a0 : List (List L)) (b1 : List (List L)) (i5 : Int) : Req := .point 10 [] (todoAt Tryz.prog 10 4) ⟨[(.lf (.lst 42 a0)), (.lf (.lst 42 b1)), an, an, an, (.lf (.int IntKind.i64 i5)), an, an, an, an, an, an, an, an, an, an, an, an, an, an, an, an, an, an, an, an, an], []⟩
theorem sameList_e (G : Req → R) (a0 : List (List L)) (b1 : List (List L)) : runB (cfg [k_rsame]) G (.enter 10 [(.lf (.lst 42 a0)), (.lf (.lst 42 b1))] []) =
  (cond ((↑(List.length a0) : Int) != (↑(List.length b1) : Int))
   (some [(.bool (false))])
   (G (sameList_q4 a0 b1 0))) := by kernel_rfl
theorem sameList_p4 (G : Req → R) (a0 : List (List L)) (b1 : List (List L)) (i5 : Int) : runB (cfg [k_rsame]) G (sameList_q4 a0 b1 i5) =
  (cond (ltI i5 (↑(List.length a0) : Int))
   (cond (leI 0 i5 && ltI i5 (↑(List.length a0) : Int))
    (cond (leI 0 i5 && ltI i5 (↑(List.length b1) : Int))
     (cond (isLs (cX 10 (atL a0 i5)) (cX 11 (atL a0 i5)) (cX 12 (atL a0 i5)) (cX 13 (atL a0 i5)) && (isLs (cX 10 (atL b1 i5)) (cX 11 (atL b1 i5)) (cX 12 (atL b1 i5)) (cX 13 (atL b1 i5)) && smE (Ev.mk (cI 0 (atL b1 i5)) (bl (cT 1 (atL b1 i5))) (bl (cT 2 (atL b1 i5))) (bl (cT 3 (atL b1 i5))) (cI 4 (atL b1 i5)) (cI 5 (atL b1 i5)) (cI 6 (atL b1 i5)) (cI 7 (atL b1 i5)) (bl (cT 8 (atL b1 i5))) (bl (cT 9 (atL b1 i5))) (dIs (cX 10 (atL b1 i5))) (dSs (cX 11 (atL b1 i5))) (dRs (cX 12 (atL b1 i5))) (dWs (cX 13 (atL b1 i5))))))
      (cond (!decide (Ev.mk (cI 0 (atL a0 i5)) (bl (cT 1 (atL a0 i5))) (bl (cT 2 (atL a0 i5))) (bl (cT 3 (atL a0 i5))) (cI 4 (atL a0 i5)) (cI 5 (atL a0 i5)) (cI 6 (atL a0 i5)) (cI 7 (atL a0 i5)) (bl (cT 8 (atL a0 i5))) (bl (cT 9 (atL a0 i5))) (dIs (cX 10 (atL a0 i5))) (dSs (cX 11 (atL a0 i5))) (dRs (cX 12 (atL a0 i5))) (dWs (cX 13 (atL a0 i5))) = Ev.mk (cI 0 (atL b1 i5)) (bl (cT 1 (atL b1 i5))) (bl (cT 2 (atL b1 i5))) (bl (cT 3 (atL b1 i5))) (cI 4 (atL b1 i5)) (cI 5 (atL b1 i5)) (cI 6 (atL b1 i5)) (cI 7 (atL b1 i5)) (bl (cT 8 (atL b1 i5))) (bl (cT 9 (atL b1 i5))) (dIs (cX 10 (atL b1 i5))) (dSs (cX 11 (atL b1 i5))) (dRs (cX 12 (atL b1 i5))) (dWs (cX 13 (atL b1 i5)))))
       (some [(.bool (false))])
       (G (sameList_q4 a0 b1 (wrapI IntKind.i64 (i5 + 1)))))
      none)
     none)
    none)
   (some [(.bool (true))])) := by kernel_rfl

end Go.Ab
namespace Go.Ab
open Go.Proofs
/-! (*codesearch/codesearchref54.args).writes -/
noncomputable def awrites_q2 (h0_0 : ByteArray) (h0_1 : Bool) (h1 : List (List L)) : Req := .point 71 [(.box [.str, .bool] [.any, .any])] (todoAt Tryz.prog 71 2) ⟨[(.lf (.ptr 0 0)), an, an, (.lf (.row 1)), an, an, an, an, an, an, an, an, an, an, an, an, an, an, an, an, an, an, an, an, an, an, an, an, an, an, an, an], [(.box [.str, .bool] [(.str h0_0), (.bool h0_1)]), (.row 51 h1 true)]⟩
theorem awrites_e (G : Req → R) (a0_0 : ByteArray) (a0_1 : Bool) : runB (cfg [c_aw, c_at, k_amore]) G (.enter 71 [(.lf (.ptr 0 0))] [(.box [.str, .bool] [(.str (a0_0)), (.bool (a0_1))])]) =
  (G (awrites_q2 a0_0 a0_1 [])) := by kernel_rfl
theorem awrites_p2 (G : Req → R) (h0_0 : ByteArray) (h0_1 : Bool) (h1 : List (List L)) : runB (cfg [c_aw, c_at, k_amore]) G (awrites_q2 h0_0 h0_1 h1) =
  (cond (!h0_1 && !List.isEmpty (bl h0_0))
   (cond (sm (List.length (bl (mk (bl h0_0)))))
    (cond (bl (mk (anW (bl (mk (bl h0_0))))) == bl (mk [112, 117, 116]))
     (cond (sm (List.length (bl (mk (anR (bl (mk (bl h0_0))))))))
      (cond (sm (List.length (bl (mk (anR (bl (mk (anR (bl (mk (bl h0_0)))))))))))
       (cond (roomN (List.length h1 + 1) 40)
        (G (awrites_q2 (mk (atS (bl (mk (anR (bl (mk (anR (bl (mk (bl h0_0))))))))))) (awTB (bl (mk (anR (bl (mk (anR (bl (mk (bl h0_0))))))))) (awB (bl (mk (anR (bl (mk (bl h0_0)))))) (awB (bl (mk (bl h0_0))) h0_1))) (h1 ++ [[L.str (mk (anW (bl (mk (anR (bl (mk (bl h0_0)))))))), L.str (mk (atV (bl (mk (anR (bl (mk (anR (bl (mk (bl h0_0))))))))))), L.bool false]])))
        none)
       none)
      none)
     (cond (bl (mk (anW (bl (mk (bl h0_0))))) == bl (mk [100, 101, 108]))
      (cond (sm (List.length (bl (mk (anR (bl (mk (bl h0_0))))))))
       (cond (roomN (List.length h1 + 1) 40)
        (G (awrites_q2 (mk (anR (bl (mk (anR (bl (mk (bl h0_0)))))))) (awB (bl (mk (anR (bl (mk (bl h0_0)))))) (awB (bl (mk (bl h0_0))) h0_1)) (h1 ++ [[L.str (mk (anW (bl (mk (anR (bl (mk (bl h0_0)))))))), L.str (mk []), L.bool true]])))
        none)
       none)
      (G (awrites_q2 (mk (anR (bl (mk (bl h0_0))))) true h1))))
    none)
   (some [(.lst 51 h1), (.str (mk (bl h0_0))), (.bool (h0_1))])) := by kernel_rfl

/-! (*codesearch/codesearchref54.args).group -/
noncomputable def agroup_q2 (h0_0 : ByteArray) (h0_1 : Bool) (h1_0 : ByteArray) (h2_0 : ByteArray) (h3 : List (List L)) (h4 : List (List L)) (h5 : List (List L)) (h6 : List (List L)) : Req := .point 72 [(.box [.str, .bool] [.any, .any])] (todoAt Tryz.prog 72 2) ⟨[(.lf (.ptr 0 0)), an, (.lf (.ptr 1 0)), (.lf (.ptr 2 0)), an, an, an, an, an, an, an, an, an, an, an, an, an, an, an, an, an, an, an, an, an, an, an, an, an, an, an, an, an, an, an, an, an, an, an, an], [(.box [.str, .bool] [(.str h0_0), (.bool h0_1)]), (.box [.str, (.sl 3), (.sl 9)] [(.str h1_0), (.row 3), (.row 4)]), (.box [.str, (.sl 3), (.sl 9)] [(.str h2_0), (.row 5), (.row 6)]), (.row 3 h3 true), (.row 9 h4 true), (.row 3 h5 true), (.row 9 h6 true)]⟩
theorem agroup_e (G : Req → R) (a0_0 : ByteArray) (a0_1 : Bool) : runB (cfg [c_aw, c_an, k_amore]) G (.enter 72 [(.lf (.ptr 0 0))] [(.box [.str, .bool] [(.str (a0_0)), (.bool (a0_1))])]) =
  (cond (sm (List.length (bl a0_0)))
   (G (agroup_q2 (mk (anR (bl a0_0))) (awB (bl a0_0) a0_1) (mk []) (mk (anW (bl a0_0))) [] [] [] []))
   none) := by kernel_rfl
theorem agroup_p2 (G : Req → R) (h0_0 : ByteArray) (h0_1 : Bool) (h1_0 : ByteArray) (h2_0 : ByteArray) (h3 : List (List L)) (h4 : List (List L)) (h5 : List (List L)) (h6 : List (List L)) : runB (cfg [c_aw, c_an, k_amore]) G (agroup_q2 h0_0 h0_1 h1_0 h2_0 h3 h4 h5 h6) =
  (cond (!h0_1 && !List.isEmpty (bl h0_0))
   (cond (sm (List.length (bl (mk (bl h0_0)))))
    (cond (bl (mk (anW (bl (mk (bl h0_0))))) == bl (mk [117, 115, 101, 114]))
     (cond (ltI 0 (↑(List.length h6) : Int))
      (dupN 1
       (cond (sm (List.length (bl (mk (anR (bl (mk (bl h0_0))))))))
        (cond (roomN (List.length h5 + 1) 8)
         (G (agroup_q2 (mk (anR (bl (mk (anR (bl (mk (bl h0_0)))))))) (awNB (bl (mk (anR (bl (mk (bl h0_0)))))) true) h1_0 h2_0 h3 h4 (h5 ++ [[L.int IntKind.i64 (awN (bl (mk (anR (bl (mk (bl h0_0)))))))]]) h6))
         none)
        none))
      (dupN 1
       (cond (sm (List.length (bl (mk (anR (bl (mk (bl h0_0))))))))
        (cond (roomN (List.length h5 + 1) 8)
         (G (agroup_q2 (mk (anR (bl (mk (anR (bl (mk (bl h0_0)))))))) (awNB (bl (mk (anR (bl (mk (bl h0_0)))))) (awB (bl (mk (bl h0_0))) h0_1)) h1_0 h2_0 h3 h4 (h5 ++ [[L.int IntKind.i64 (awN (bl (mk (anR (bl (mk (bl h0_0)))))))]]) h6))
         none)
        none)))
     (cond (bl (mk (anW (bl (mk (bl h0_0))))) == bl (mk [103, 114, 111, 117, 112]))
      (dupN 1
       (cond (sm (List.length (bl (mk (anR (bl (mk (bl h0_0))))))))
        (cond (roomN (List.length h6 + 1) 16)
         (G (agroup_q2 (mk (anR (bl (mk (anR (bl (mk (bl h0_0)))))))) (awB (bl (mk (anR (bl (mk (bl h0_0)))))) (awB (bl (mk (bl h0_0))) h0_1)) h1_0 h2_0 h3 h4 h5 (h6 ++ [[L.str (mk (anW (bl (mk (anR (bl (mk (bl h0_0))))))))]])))
         none)
        none))
      (G (agroup_q2 (mk (anR (bl (mk (bl h0_0))))) true h1_0 h2_0 h3 h4 h5 h6))))
    none)
   (some [(.str (h2_0)), (.lst 3 h5), (.lst 9 h6), (.str (mk (bl h0_0))), (.bool (h0_1))])) := by kernel_rfl

/-! (*codesearch/codesearchref54.args).rules -/
noncomputable def arules_q2 (h0_0 : ByteArray) (h0_1 : Bool) (h1 : List (List L)) : Req := .point 73 [(.box [.str, .bool] [.any, .any])] (todoAt Tryz.prog 73 2) ⟨[(.lf (.ptr 0 0)), an, an, (.lf (.row 1)), an, an, an, an, an, an, an, an, an, an, an, an, an, an, an, an, an, an, an, an, an, an, an, an, an, an, an, an, an, an, an, an, an], [(.box [.str, .bool] [(.str h0_0), (.bool h0_1)]), (.row 65 h1 true)]⟩
theorem arules_e (G : Req → R) (a0_0 : ByteArray) (a0_1 : Bool) : runB (cfg [c_aw, k_amore]) G (.enter 73 [(.lf (.ptr 0 0))] [(.box [.str, .bool] [(.str (a0_0)), (.bool (a0_1))])]) =
  (G (arules_q2 a0_0 a0_1 [])) := by kernel_rfl
theorem arules_p2 (G : Req → R) (h0_0 : ByteArray) (h0_1 : Bool) (h1 : List (List L)) : runB (cfg [c_aw, k_amore]) G (arules_q2 h0_0 h0_1 h1) =
  (cond (!h0_1 && !List.isEmpty (bl h0_0))
   (cond (sm (List.length (bl (mk (bl h0_0)))))
    (cond (!bl (mk (anW (bl (mk (bl h0_0))))) == bl (mk [97, 108, 108, 111, 119]))
     (cond (!bl (mk (anW (bl (mk (bl h0_0))))) == bl (mk [100, 101, 110, 121]))
      (cond (sm (List.length (bl (mk (anR (bl (mk (bl h0_0))))))))
       (cond (sm (List.length (bl (mk (anR (bl (mk (anR (bl (mk (bl h0_0)))))))))))
        (cond (sm (List.length (bl (mk (anR (bl (mk (anR (bl (mk (anR (bl (mk (bl h0_0))))))))))))))
         (cond (bl (mk (anW (bl (mk (anR (bl (mk (anR (bl (mk (bl h0_0))))))))))) == bl (mk [45]))
          (cond (roomN (List.length h1 + 1) 56)
           (G (arules_q2 (mk (anR (bl (mk (anR (bl (mk (anR (bl (mk (anR (bl (mk (bl h0_0)))))))))))))) (awB (bl (mk (anR (bl (mk (anR (bl (mk (anR (bl (mk (bl h0_0)))))))))))) (awB (bl (mk (anR (bl (mk (anR (bl (mk (bl h0_0))))))))) (awB (bl (mk (anR (bl (mk (bl h0_0)))))) true))) (h1 ++ [[L.bool (bl (mk (anW (bl (mk (bl h0_0))))) == bl (mk [97, 108, 108, 111, 119])), L.str (mk (anW (bl (mk (anR (bl (mk (bl h0_0)))))))), L.str (mk []), L.str (mk (anW (bl (mk (anR (bl (mk (anR (bl (mk (anR (bl (mk (bl h0_0))))))))))))))]])))
           none)
          (cond (roomN (List.length h1 + 1) 56)
           (G (arules_q2 (mk (anR (bl (mk (anR (bl (mk (anR (bl (mk (anR (bl (mk (bl h0_0)))))))))))))) (awB (bl (mk (anR (bl (mk (anR (bl (mk (anR (bl (mk (bl h0_0)))))))))))) (awB (bl (mk (anR (bl (mk (anR (bl (mk (bl h0_0))))))))) (awB (bl (mk (anR (bl (mk (bl h0_0)))))) true))) (h1 ++ [[L.bool (bl (mk (anW (bl (mk (bl h0_0))))) == bl (mk [97, 108, 108, 111, 119])), L.str (mk (anW (bl (mk (anR (bl (mk (bl h0_0)))))))), L.str (mk (anW (bl (mk (anR (bl (mk (anR (bl (mk (bl h0_0))))))))))), L.str (mk (anW (bl (mk (anR (bl (mk (anR (bl (mk (anR (bl (mk (bl h0_0))))))))))))))]])))
           none))
         none)
        none)
       none)
      (cond (sm (List.length (bl (mk (anR (bl (mk (bl h0_0))))))))
       (cond (sm (List.length (bl (mk (anR (bl (mk (anR (bl (mk (bl h0_0)))))))))))
        (cond (sm (List.length (bl (mk (anR (bl (mk (anR (bl (mk (anR (bl (mk (bl h0_0))))))))))))))
         (cond (bl (mk (anW (bl (mk (anR (bl (mk (anR (bl (mk (bl h0_0))))))))))) == bl (mk [45]))
          (cond (roomN (List.length h1 + 1) 56)
           (G (arules_q2 (mk (anR (bl (mk (anR (bl (mk (anR (bl (mk (anR (bl (mk (bl h0_0)))))))))))))) (awB (bl (mk (anR (bl (mk (anR (bl (mk (anR (bl (mk (bl h0_0)))))))))))) (awB (bl (mk (anR (bl (mk (anR (bl (mk (bl h0_0))))))))) (awB (bl (mk (anR (bl (mk (bl h0_0)))))) (awB (bl (mk (bl h0_0))) h0_1)))) (h1 ++ [[L.bool (bl (mk (anW (bl (mk (bl h0_0))))) == bl (mk [97, 108, 108, 111, 119])), L.str (mk (anW (bl (mk (anR (bl (mk (bl h0_0)))))))), L.str (mk []), L.str (mk (anW (bl (mk (anR (bl (mk (anR (bl (mk (anR (bl (mk (bl h0_0))))))))))))))]])))
           none)
          (cond (roomN (List.length h1 + 1) 56)
           (G (arules_q2 (mk (anR (bl (mk (anR (bl (mk (anR (bl (mk (anR (bl (mk (bl h0_0)))))))))))))) (awB (bl (mk (anR (bl (mk (anR (bl (mk (anR (bl (mk (bl h0_0)))))))))))) (awB (bl (mk (anR (bl (mk (anR (bl (mk (bl h0_0))))))))) (awB (bl (mk (anR (bl (mk (bl h0_0)))))) (awB (bl (mk (bl h0_0))) h0_1)))) (h1 ++ [[L.bool (bl (mk (anW (bl (mk (bl h0_0))))) == bl (mk [97, 108, 108, 111, 119])), L.str (mk (anW (bl (mk (anR (bl (mk (bl h0_0)))))))), L.str (mk (anW (bl (mk (anR (bl (mk (anR (bl (mk (bl h0_0))))))))))), L.str (mk (anW (bl (mk (anR (bl (mk (anR (bl (mk (anR (bl (mk (bl h0_0))))))))))))))]])))
           none))
         none)
        none)
       none))
     (cond (sm (List.length (bl (mk (anR (bl (mk (bl h0_0))))))))
      (cond (sm (List.length (bl (mk (anR (bl (mk (anR (bl (mk (bl h0_0)))))))))))
       (cond (sm (List.length (bl (mk (anR (bl (mk (anR (bl (mk (anR (bl (mk (bl h0_0))))))))))))))
        (cond (bl (mk (anW (bl (mk (anR (bl (mk (anR (bl (mk (bl h0_0))))))))))) == bl (mk [45]))
         (cond (roomN (List.length h1 + 1) 56)
          (G (arules_q2 (mk (anR (bl (mk (anR (bl (mk (anR (bl (mk (anR (bl (mk (bl h0_0)))))))))))))) (awB (bl (mk (anR (bl (mk (anR (bl (mk (anR (bl (mk (bl h0_0)))))))))))) (awB (bl (mk (anR (bl (mk (anR (bl (mk (bl h0_0))))))))) (awB (bl (mk (anR (bl (mk (bl h0_0)))))) (awB (bl (mk (bl h0_0))) h0_1)))) (h1 ++ [[L.bool (bl (mk (anW (bl (mk (bl h0_0))))) == bl (mk [97, 108, 108, 111, 119])), L.str (mk (anW (bl (mk (anR (bl (mk (bl h0_0)))))))), L.str (mk []), L.str (mk (anW (bl (mk (anR (bl (mk (anR (bl (mk (anR (bl (mk (bl h0_0))))))))))))))]])))
          none)
         (cond (roomN (List.length h1 + 1) 56)
          (G (arules_q2 (mk (anR (bl (mk (anR (bl (mk (anR (bl (mk (anR (bl (mk (bl h0_0)))))))))))))) (awB (bl (mk (anR (bl (mk (anR (bl (mk (anR (bl (mk (bl h0_0)))))))))))) (awB (bl (mk (anR (bl (mk (anR (bl (mk (bl h0_0))))))))) (awB (bl (mk (anR (bl (mk (bl h0_0)))))) (awB (bl (mk (bl h0_0))) h0_1)))) (h1 ++ [[L.bool (bl (mk (anW (bl (mk (bl h0_0))))) == bl (mk [97, 108, 108, 111, 119])), L.str (mk (anW (bl (mk (anR (bl (mk (bl h0_0)))))))), L.str (mk (anW (bl (mk (anR (bl (mk (anR (bl (mk (bl h0_0))))))))))), L.str (mk (anW (bl (mk (anR (bl (mk (anR (bl (mk (anR (bl (mk (bl h0_0))))))))))))))]])))
          none))
        none)
       none)
      none))
    none)
   (some [(.lst 65 h1), (.str (mk (bl h0_0))), (.bool (h0_1))])) := by kernel_rfl

/-! codesearch/codesearchref54.command -/
noncomputable def command_q3 (w0 : ByteArray) (i4 : Int) (h0 : List (List L)) : Req := .point 45 [] (todoAt Tryz.prog 45 3) ⟨[(.lf (.str w0)), an, an, (.lf (.row 0)), (.lf (.int IntKind.i64 i4)), an, an, an, an, an, an, an, an, an, an, an, an, an, an, an], [(.row 9 h0 true)]⟩
theorem command_e (G : Req → R) (w0 : ByteArray) : runB (cfg []) G (.enter 45 [(.lf (.str (w0)))] []) =
  (G (command_q3 w0 0 ([[L.str (mk [99, 111, 109, 109, 105, 116])], [L.str (mk [98, 114, 97, 110, 99, 104])], [L.str (mk [100, 114, 111, 112])], [L.str (mk [102, 111, 114, 119, 97, 114, 100])], [L.str (mk [105, 110, 103, 101, 115, 116])], [L.str (mk [109, 101, 114, 103, 101])], [L.str (mk [103, 114, 111, 117, 112])], [L.str (mk [114, 117, 108, 101, 115])], [L.str (mk [115, 101, 97, 114, 99, 104])], [L.str (mk [115, 97, 118, 101])], [L.str (mk [102, 111, 114, 103, 101, 116])], [L.str (mk [110, 111, 116, 105, 102, 121])], [L.str (mk [100, 101, 108, 105, 118, 101, 114])], [L.str (mk [116, 105, 99, 107])], [L.str (mk [114, 101, 110, 101, 119])], [L.str (mk [115, 121, 110, 99])], [L.str (mk [99, 114, 97, 115, 104])], [L.str (mk [115, 116, 97, 114, 116])], [L.str (mk [115, 108, 111, 119])], [L.str (mk [112, 114, 117, 110, 101])], [L.str (mk [114, 101, 119, 114, 105, 116, 101])], [L.str (mk [114, 101, 112, 111])]]))) := by kernel_rfl
theorem command_p3 (G : Req → R) (w0 : ByteArray) (i4 : Int) (h0 : List (List L)) : runB (cfg []) G (command_q3 w0 i4 h0) =
  (cond (ltI i4 (↑(List.length h0) : Int))
   (cond (leI 0 i4 && ltI i4 (↑(List.length h0) : Int))
    (cond (bl (cT 0 (atL h0 i4)) == bl w0)
     (some [(.int IntKind.i64 (wrapI IntKind.i64 (i4 + 1)))])
     (G (command_q3 w0 (wrapI IntKind.i64 (i4 + 1)) h0)))
    none)
   (some [(.int IntKind.i64 (0))])) := by kernel_rfl

/-! codesearch/codesearchref54.Read -/
noncomputable def aread_q2 (s0 : ByteArray) (n4 : Int) (h0_0 : Int) (h0_1 : ByteArray) (h0_2 : ByteArray) (h0_3 : ByteArray) (h0_4 : Int) (h0_5 : Int) (h0_6 : Int) (h0_7 : Int) (h0_8 : ByteArray) (h0_9 : ByteArray) (h1 : List (List L)) (h2 : List (List L)) (h3 : List (List L)) (h4 : List (List L)) : Req := .point 21 [] (todoAt Tryz.prog 21 2) ⟨[(.lf (.str s0)), an, (.lf (.ptr 0 0)), an, (.lf (.int IntKind.i64 n4)), an, an, an, an, an, an, an, an, an, an, an, an, an, an, an, an, an, an, an, an, an, an, an, an, an, an, an, an, an, an, an, an, an, an, an, an, an, an, an, an, an, an, an], [(.box [(.int IntKind.i64), .str, .str, .str, (.int IntKind.i64), (.int IntKind.i64), (.int IntKind.i64), (.int IntKind.i64), .str, .str, (.sl 3), (.sl 9), (.sl 65), (.sl 51)] [(.int IntKind.i64 h0_0), (.str h0_1), (.str h0_2), (.str h0_3), (.int IntKind.i64 h0_4), (.int IntKind.i64 h0_5), (.int IntKind.i64 h0_6), (.int IntKind.i64 h0_7), (.str h0_8), (.str h0_9), (.row 1), (.row 2), (.row 3), (.row 4)]), (.row 3 h1 true), (.row 9 h2 true), (.row 65 h3 true), (.row 51 h4 true)]⟩
theorem aread_e (G : Req → R) (s0 : ByteArray) : runB (cfg [k_command, k_aevent]) G (.enter 21 [(.lf (.str (s0)))] []) =
  (G (aread_q2 s0 0 0 (mk []) (mk []) (mk []) 0 0 0 0 (mk []) (mk []) [] [] [] [])) := by kernel_rfl
theorem aread_p2 (G : Req → R) (s0 : ByteArray) (n4 : Int) (h0_0 : Int) (h0_1 : ByteArray) (h0_2 : ByteArray) (h0_3 : ByteArray) (h0_4 : Int) (h0_5 : Int) (h0_6 : Int) (h0_7 : Int) (h0_8 : ByteArray) (h0_9 : ByteArray) (h1 : List (List L)) (h2 : List (List L)) (h3 : List (List L)) (h4 : List (List L)) : runB (cfg [k_command, k_aevent]) G (aread_q2 s0 n4 h0_0 h0_1 h0_2 h0_3 h0_4 h0_5 h0_6 h0_7 h0_8 h0_9 h1 h2 h3 h4) =
  (cond (ltI n4 (↑(ByteArray.size s0) : Int))
   (cond (leI 0 n4 && ltI n4 (↑(ByteArray.size s0) : Int))
    (cond (byI s0 n4 != 32)
     (G (aread_q2 s0 (wrapI IntKind.i64 (n4 + 1)) h0_0 h0_1 h0_2 h0_3 h0_4 h0_5 h0_6 h0_7 h0_8 h0_9 h1 h2 h3 h4))
     (cond (leI 0 n4 && leI n4 (↑(ByteArray.size s0) : Int))
      (cond (sm (ByteArray.size (ByteArray.extract s0 0 (Int.toNat n4))))
       (cond (ct (bl (ByteArray.extract s0 0 (Int.toNat n4))) == 0)
        (some [(.int IntKind.i64 (0)), (.str (mk [])), (.str (mk [])), (.str (mk [])), (.int IntKind.i64 (0)), (.int IntKind.i64 (0)), (.int IntKind.i64 (0)), (.int IntKind.i64 (0)), (.str (mk [])), (.str (mk [])), (.lst 3 []), (.lst 9 []), (.lst 65 []), (.lst 51 []), (.int IntKind.i64 (19))])
        (cond (leI 0 n4 && leI n4 (↑(ByteArray.size s0) : Int))
         (cond (sm (ByteArray.size (ByteArray.extract s0 (Int.toNat n4) (ByteArray.size s0))) && (leI 1 (ct (bl (ByteArray.extract s0 0 (Int.toNat n4)))) && leI (ct (bl (ByteArray.extract s0 0 (Int.toNat n4)))) 22))
          (cond (Prod.snd (Prod.snd (evG aOps (ct (bl (ByteArray.extract s0 0 (Int.toNat n4)))) (bl (ByteArray.extract s0 (Int.toNat n4) (ByteArray.size s0)), false))))
           (some [(.int IntKind.i64 (0)), (.str (mk [])), (.str (mk [])), (.str (mk [])), (.int IntKind.i64 (0)), (.int IntKind.i64 (0)), (.int IntKind.i64 (0)), (.int IntKind.i64 (0)), (.str (mk [])), (.str (mk [])), (.lst 3 []), (.lst 9 []), (.lst 65 []), (.lst 51 []), (.int IntKind.i64 (3))])
           (cond (!bl (mk (Prod.fst (Prod.snd (evG aOps (ct (bl (ByteArray.extract s0 0 (Int.toNat n4)))) (bl (ByteArray.extract s0 (Int.toNat n4) (ByteArray.size s0)), false))))) == bl (mk []))
            (some [(.int IntKind.i64 (0)), (.str (mk [])), (.str (mk [])), (.str (mk [])), (.int IntKind.i64 (0)), (.int IntKind.i64 (0)), (.int IntKind.i64 (0)), (.int IntKind.i64 (0)), (.str (mk [])), (.str (mk [])), (.lst 3 []), (.lst 9 []), (.lst 65 []), (.lst 51 []), (.int IntKind.i64 (3))])
            (some [(.int IntKind.i64 (Ev.kind (Prod.fst (evG aOps (ct (bl (ByteArray.extract s0 0 (Int.toNat n4)))) (bl (ByteArray.extract s0 (Int.toNat n4) (ByteArray.size s0)), false))))), (.str (mk (Ev.repo (Prod.fst (evG aOps (ct (bl (ByteArray.extract s0 0 (Int.toNat n4)))) (bl (ByteArray.extract s0 (Int.toNat n4) (ByteArray.size s0)), false)))))), (.str (mk (Ev.name (Prod.fst (evG aOps (ct (bl (ByteArray.extract s0 0 (Int.toNat n4)))) (bl (ByteArray.extract s0 (Int.toNat n4) (ByteArray.size s0)), false)))))), (.str (mk (Ev.other (Prod.fst (evG aOps (ct (bl (ByteArray.extract s0 0 (Int.toNat n4)))) (bl (ByteArray.extract s0 (Int.toNat n4) (ByteArray.size s0)), false)))))), (.int IntKind.i64 (Ev.who (Prod.fst (evG aOps (ct (bl (ByteArray.extract s0 0 (Int.toNat n4)))) (bl (ByteArray.extract s0 (Int.toNat n4) (ByteArray.size s0)), false))))), (.int IntKind.i64 (Ev.n (Prod.fst (evG aOps (ct (bl (ByteArray.extract s0 0 (Int.toNat n4)))) (bl (ByteArray.extract s0 (Int.toNat n4) (ByteArray.size s0)), false))))), (.int IntKind.i64 (Ev.m (Prod.fst (evG aOps (ct (bl (ByteArray.extract s0 0 (Int.toNat n4)))) (bl (ByteArray.extract s0 (Int.toNat n4) (ByteArray.size s0)), false))))), (.int IntKind.i64 (Ev.k (Prod.fst (evG aOps (ct (bl (ByteArray.extract s0 0 (Int.toNat n4)))) (bl (ByteArray.extract s0 (Int.toNat n4) (ByteArray.size s0)), false))))), (.str (mk (Ev.text (Prod.fst (evG aOps (ct (bl (ByteArray.extract s0 0 (Int.toNat n4)))) (bl (ByteArray.extract s0 (Int.toNat n4) (ByteArray.size s0)), false)))))), (.str (mk (Ev.gname (Prod.fst (evG aOps (ct (bl (ByteArray.extract s0 0 (Int.toNat n4)))) (bl (ByteArray.extract s0 (Int.toNat n4) (ByteArray.size s0)), false)))))), (.lst 3 (eIs (Ev.users (Prod.fst (evG aOps (ct (bl (ByteArray.extract s0 0 (Int.toNat n4)))) (bl (ByteArray.extract s0 (Int.toNat n4) (ByteArray.size s0)), false)))))), (.lst 9 (eSs (Ev.groups (Prod.fst (evG aOps (ct (bl (ByteArray.extract s0 0 (Int.toNat n4)))) (bl (ByteArray.extract s0 (Int.toNat n4) (ByteArray.size s0)), false)))))), (.lst 65 (eRs (Ev.rules (Prod.fst (evG aOps (ct (bl (ByteArray.extract s0 0 (Int.toNat n4)))) (bl (ByteArray.extract s0 (Int.toNat n4) (ByteArray.size s0)), false)))))), (.lst 51 (eWs (Ev.writes (Prod.fst (evG aOps (ct (bl (ByteArray.extract s0 0 (Int.toNat n4)))) (bl (ByteArray.extract s0 (Int.toNat n4) (ByteArray.size s0)), false)))))), (.int IntKind.i64 (0))])))
          none)
         none))
       none)
      none))
    none)
   (cond (leI 0 n4 && leI n4 (↑(ByteArray.size s0) : Int))
    (cond (sm (ByteArray.size (ByteArray.extract s0 0 (Int.toNat n4))))
     (cond (ct (bl (ByteArray.extract s0 0 (Int.toNat n4))) == 0)
      (some [(.int IntKind.i64 (0)), (.str (mk [])), (.str (mk [])), (.str (mk [])), (.int IntKind.i64 (0)), (.int IntKind.i64 (0)), (.int IntKind.i64 (0)), (.int IntKind.i64 (0)), (.str (mk [])), (.str (mk [])), (.lst 3 []), (.lst 9 []), (.lst 65 []), (.lst 51 []), (.int IntKind.i64 (19))])
      (cond (leI 0 n4 && leI n4 (↑(ByteArray.size s0) : Int))
       (cond (sm (ByteArray.size (ByteArray.extract s0 (Int.toNat n4) (ByteArray.size s0))) && (leI 1 (ct (bl (ByteArray.extract s0 0 (Int.toNat n4)))) && leI (ct (bl (ByteArray.extract s0 0 (Int.toNat n4)))) 22))
        (cond (Prod.snd (Prod.snd (evG aOps (ct (bl (ByteArray.extract s0 0 (Int.toNat n4)))) (bl (ByteArray.extract s0 (Int.toNat n4) (ByteArray.size s0)), false))))
         (some [(.int IntKind.i64 (0)), (.str (mk [])), (.str (mk [])), (.str (mk [])), (.int IntKind.i64 (0)), (.int IntKind.i64 (0)), (.int IntKind.i64 (0)), (.int IntKind.i64 (0)), (.str (mk [])), (.str (mk [])), (.lst 3 []), (.lst 9 []), (.lst 65 []), (.lst 51 []), (.int IntKind.i64 (3))])
         (cond (!bl (mk (Prod.fst (Prod.snd (evG aOps (ct (bl (ByteArray.extract s0 0 (Int.toNat n4)))) (bl (ByteArray.extract s0 (Int.toNat n4) (ByteArray.size s0)), false))))) == bl (mk []))
          (some [(.int IntKind.i64 (0)), (.str (mk [])), (.str (mk [])), (.str (mk [])), (.int IntKind.i64 (0)), (.int IntKind.i64 (0)), (.int IntKind.i64 (0)), (.int IntKind.i64 (0)), (.str (mk [])), (.str (mk [])), (.lst 3 []), (.lst 9 []), (.lst 65 []), (.lst 51 []), (.int IntKind.i64 (3))])
          (some [(.int IntKind.i64 (Ev.kind (Prod.fst (evG aOps (ct (bl (ByteArray.extract s0 0 (Int.toNat n4)))) (bl (ByteArray.extract s0 (Int.toNat n4) (ByteArray.size s0)), false))))), (.str (mk (Ev.repo (Prod.fst (evG aOps (ct (bl (ByteArray.extract s0 0 (Int.toNat n4)))) (bl (ByteArray.extract s0 (Int.toNat n4) (ByteArray.size s0)), false)))))), (.str (mk (Ev.name (Prod.fst (evG aOps (ct (bl (ByteArray.extract s0 0 (Int.toNat n4)))) (bl (ByteArray.extract s0 (Int.toNat n4) (ByteArray.size s0)), false)))))), (.str (mk (Ev.other (Prod.fst (evG aOps (ct (bl (ByteArray.extract s0 0 (Int.toNat n4)))) (bl (ByteArray.extract s0 (Int.toNat n4) (ByteArray.size s0)), false)))))), (.int IntKind.i64 (Ev.who (Prod.fst (evG aOps (ct (bl (ByteArray.extract s0 0 (Int.toNat n4)))) (bl (ByteArray.extract s0 (Int.toNat n4) (ByteArray.size s0)), false))))), (.int IntKind.i64 (Ev.n (Prod.fst (evG aOps (ct (bl (ByteArray.extract s0 0 (Int.toNat n4)))) (bl (ByteArray.extract s0 (Int.toNat n4) (ByteArray.size s0)), false))))), (.int IntKind.i64 (Ev.m (Prod.fst (evG aOps (ct (bl (ByteArray.extract s0 0 (Int.toNat n4)))) (bl (ByteArray.extract s0 (Int.toNat n4) (ByteArray.size s0)), false))))), (.int IntKind.i64 (Ev.k (Prod.fst (evG aOps (ct (bl (ByteArray.extract s0 0 (Int.toNat n4)))) (bl (ByteArray.extract s0 (Int.toNat n4) (ByteArray.size s0)), false))))), (.str (mk (Ev.text (Prod.fst (evG aOps (ct (bl (ByteArray.extract s0 0 (Int.toNat n4)))) (bl (ByteArray.extract s0 (Int.toNat n4) (ByteArray.size s0)), false)))))), (.str (mk (Ev.gname (Prod.fst (evG aOps (ct (bl (ByteArray.extract s0 0 (Int.toNat n4)))) (bl (ByteArray.extract s0 (Int.toNat n4) (ByteArray.size s0)), false)))))), (.lst 3 (eIs (Ev.users (Prod.fst (evG aOps (ct (bl (ByteArray.extract s0 0 (Int.toNat n4)))) (bl (ByteArray.extract s0 (Int.toNat n4) (ByteArray.size s0)), false)))))), (.lst 9 (eSs (Ev.groups (Prod.fst (evG aOps (ct (bl (ByteArray.extract s0 0 (Int.toNat n4)))) (bl (ByteArray.extract s0 (Int.toNat n4) (ByteArray.size s0)), false)))))), (.lst 65 (eRs (Ev.rules (Prod.fst (evG aOps (ct (bl (ByteArray.extract s0 0 (Int.toNat n4)))) (bl (ByteArray.extract s0 (Int.toNat n4) (ByteArray.size s0)), false)))))), (.lst 51 (eWs (Ev.writes (Prod.fst (evG aOps (ct (bl (ByteArray.extract s0 0 (Int.toNat n4)))) (bl (ByteArray.extract s0 (Int.toNat n4) (ByteArray.size s0)), false)))))), (.int IntKind.i64 (0))])))
        none)
       none))
     none)
    none)) := by kernel_rfl

end Go.Ab
namespace Go.Ab
open Go.Proofs
/-! internal/stringslite.HasPrefix -/
theorem hasP_e (G : Req → R) (s0 : ByteArray) (prefix1 : ByteArray) : runB (cfg []) G (.enter 100 [(.lf (.str (s0))), (.lf (.str (prefix1)))] []) =
  (cond (leI (↑(ByteArray.size prefix1) : Int) (↑(ByteArray.size s0) : Int))
   (cond (leI 0 (↑(ByteArray.size prefix1) : Int) && leI (↑(ByteArray.size prefix1) : Int) (↑(ByteArray.size s0) : Int))
    (some [(.bool (bl (ByteArray.extract s0 0 (Int.toNat (↑(ByteArray.size prefix1) : Int))) == bl prefix1))])
    none)
   (some [(.bool (false))])) := by kernel_rfl

/-! internal/stringslite.TrimPrefix -/
theorem trim2_e (G : Req → R) (s0 : ByteArray) (prefix1 : ByteArray) : runB (cfg [k_hasP]) G (.enter 84 [(.lf (.str (s0))), (.lf (.str (prefix1)))] []) =
  (cond (Nat.ble (ByteArray.size s0) 1000000000 && Nat.ble (ByteArray.size prefix1) 1000000000)
   (cond (List.isPrefixOf (bl prefix1) (bl s0))
    (cond (leI 0 (↑(ByteArray.size prefix1) : Int) && leI (↑(ByteArray.size prefix1) : Int) (↑(ByteArray.size s0) : Int))
     (some [(.str (ByteArray.extract s0 (Int.toNat (↑(ByteArray.size prefix1) : Int)) (ByteArray.size s0)))])
     none)
    (some [(.str (s0))]))
   none) := by kernel_rfl

/-! strings.TrimPrefix -/
theorem trim_e (G : Req → R) (s0 : ByteArray) (prefix1 : ByteArray) : runB (cfg [k_trim2]) G (.enter 64 [(.lf (.str (s0))), (.lf (.str (prefix1)))] []) =
  (cond (Nat.ble (ByteArray.size s0) 1000000 && bl prefix1 == [45])
   (some [(.str (mk (digs (bl s0))))])
   none) := by kernel_rfl

/-! (*codesearch/script.reader).number -/
noncomputable def pnum_q8 (w3 : ByteArray) (digits4 : ByteArray) (n5 : Int) (x31 : Int) (x32 : Int) (h0_0 : ByteArray) (h0_1 : Bool) : Req := .point 40 [(.box [.str, .bool] [.any, .any])] (todoAt Tryz.prog 40 8) ⟨[(.lf (.ptr 0 0)), an, an, (.lf (.str w3)), (.lf (.str digits4)), (.lf (.int IntKind.i64 n5)), an, an, an, an, an, an, an, an, an, an, an, an, an, an, an, an, an, an, an, an, an, an, an, an, an, (.lf (.int IntKind.i64 x31)), (.lf (.int IntKind.i64 x32)), an, an, an, an, an, an, an, an, an, an, an, an, an, an, an, an, an, an, an, an, an, an, an, an, an, an, an, an, an, an, an, an], [(.box [.str, .bool] [(.str h0_0), (.bool h0_1)])]⟩
theorem pnum_e (G : Req → R) (r0_0 : ByteArray) (r0_1 : Bool) : runB (cfg [k_raw, k_trim]) G (.enter 40 [(.lf (.ptr 0 0))] [(.box [.str, .bool] [(.str (r0_0)), (.bool (r0_1))])]) =
  (cond (sm (List.length (bl r0_0)))
   (cond (Nat.ble (ByteArray.size (mk (rwW (bl r0_0) r0_1))) 1000000 && true)
    (cond (bl (mk (digs (bl (mk (rwW (bl r0_0) r0_1))))) == bl (mk []))
     (some [(.int IntKind.i64 (0)), (.str (mk (rwS (bl r0_0) r0_1))), (.bool (true))])
     (cond (ltI 9 (↑(ByteArray.size (mk (digs (bl (mk (rwW (bl r0_0) r0_1)))))) : Int))
      (some [(.int IntKind.i64 (0)), (.str (mk (rwS (bl r0_0) r0_1))), (.bool (true))])
      (cond (ltI 0 (↑(ByteArray.size (mk (digs (bl (mk (rwW (bl r0_0) r0_1)))))) : Int))
       (cond (byI (mk (digs (bl (mk (rwW (bl r0_0) r0_1))))) 0 == 48)
        (cond (!bl (mk (rwW (bl r0_0) r0_1)) == bl (mk [48]))
         (some [(.int IntKind.i64 (0)), (.str (mk (rwS (bl r0_0) r0_1))), (.bool (true))])
         (G (pnum_q8 (mk (rwW (bl r0_0) r0_1)) (mk (digs (bl (mk (rwW (bl r0_0) r0_1))))) 0 ((↑(ByteArray.size (mk (digs (bl (mk (rwW (bl r0_0) r0_1)))))) : Int)) 0 (mk (rwS (bl r0_0) r0_1)) (!nxO (bl r0_0) r0_1))))
        (G (pnum_q8 (mk (rwW (bl r0_0) r0_1)) (mk (digs (bl (mk (rwW (bl r0_0) r0_1))))) 0 ((↑(ByteArray.size (mk (digs (bl (mk (rwW (bl r0_0) r0_1)))))) : Int)) 0 (mk (rwS (bl r0_0) r0_1)) (!nxO (bl r0_0) r0_1))))
       none)))
    none)
   none) := by kernel_rfl
theorem pnum_p8 (G : Req → R) (w3 : ByteArray) (digits4 : ByteArray) (n5 : Int) (x31 : Int) (x32 : Int) (h0_0 : ByteArray) (h0_1 : Bool) : runB (cfg [k_raw, k_trim]) G (pnum_q8 w3 digits4 n5 x31 x32 h0_0 h0_1) =
  (cond (ltI x32 x31)
   (cond (leI 0 x32 && ltI x32 (↑(ByteArray.size digits4) : Int))
    (cond (ltI (byI digits4 x32) 48)
     (some [(.int IntKind.i64 (0)), (.str (h0_0)), (.bool (true))])
     (cond (leI 0 x32 && ltI x32 (↑(ByteArray.size digits4) : Int))
      (cond (ltI 57 (byI digits4 x32))
       (some [(.int IntKind.i64 (0)), (.str (h0_0)), (.bool (true))])
       (cond (leI 0 x32 && ltI x32 (↑(ByteArray.size digits4) : Int))
        (G (pnum_q8 w3 digits4 (wrapI IntKind.i64 (wrapI IntKind.i64 (10 * n5) + wrapI IntKind.i64 (wrapI IntKind.u8 (byI digits4 x32 - 48)))) x31 (wrapI IntKind.i64 (x32 + 1)) h0_0 h0_1))
        none))
      none))
    none)
   (cond (ltI (↑(ByteArray.size digits4) : Int) (↑(ByteArray.size w3) : Int))
    (some [(.int IntKind.i64 (wrapI IntKind.i64 (0 - n5))), (.str (h0_0)), (.bool (h0_1))])
    (some [(.int IntKind.i64 (n5)), (.str (h0_0)), (.bool (h0_1))]))) := by kernel_rfl

/-! (*codesearch/codesearchref54.args).number -/
noncomputable def anum_q11 (d4 : ByteArray) (minus5 : Bool) (n6 : Int) (i7 : Int) (h0_0 : ByteArray) (h0_1 : Bool) : Req := .point 70 [(.box [.str, .bool] [.any, .any])] (todoAt Tryz.prog 70 11) ⟨[(.lf (.ptr 0 0)), an, an, an, (.lf (.str d4)), (.lf (.bool minus5)), (.lf (.int IntKind.i64 n6)), (.lf (.int IntKind.i64 i7)), an, an, an, an, an, an, an, an, an, an, an, an, an, an, an, an, an, an, an, an, an, an, an, an, an, an, an, an, an, an, an, an, an, an, an, an, an, an, an, an, an, an, an, an, an, an, an, an, an, an, an, an, an, an, an, an, an, an, an, an, an, an, an, an, an, an, an, an, an], [(.box [.str, .bool] [(.str h0_0), (.bool h0_1)])]⟩
theorem anum_e (G : Req → R) (a0_0 : ByteArray) (a0_1 : Bool) : runB (cfg [k_aword]) G (.enter 70 [(.lf (.ptr 0 0))] [(.box [.str, .bool] [(.str (a0_0)), (.bool (a0_1))])]) =
  (cond (sm (List.length (bl a0_0)))
   (cond (ltI 0 (↑(ByteArray.size (mk (vis (anS (bl a0_0))))) : Int))
    (cond (ltI 0 (↑(ByteArray.size (mk (vis (anS (bl a0_0))))) : Int))
     (cond (byI (mk (vis (anS (bl a0_0)))) 0 == 45)
      (cond (leI 1 (↑(ByteArray.size (mk (vis (anS (bl a0_0))))) : Int))
       (cond (ltI (↑(ByteArray.size (ByteArray.extract (mk (vis (anS (bl a0_0)))) 1 (ByteArray.size (mk (vis (anS (bl a0_0))))))) : Int) 1)
        (some [(.int IntKind.i64 (0)), (.str (mk (List.drop (List.length (vis (anS (bl a0_0)))) (anS (bl a0_0))))), (.bool (true))])
        (cond (ltI 9 (↑(ByteArray.size (ByteArray.extract (mk (vis (anS (bl a0_0)))) 1 (ByteArray.size (mk (vis (anS (bl a0_0))))))) : Int))
         (some [(.int IntKind.i64 (0)), (.str (mk (List.drop (List.length (vis (anS (bl a0_0)))) (anS (bl a0_0))))), (.bool (true))])
         (cond (ltI 0 (↑(ByteArray.size (ByteArray.extract (mk (vis (anS (bl a0_0)))) 1 (ByteArray.size (mk (vis (anS (bl a0_0))))))) : Int))
          (cond (byI (ByteArray.extract (mk (vis (anS (bl a0_0)))) 1 (ByteArray.size (mk (vis (anS (bl a0_0)))))) 0 == 48)
           (cond (ltI 1 (↑(ByteArray.size (ByteArray.extract (mk (vis (anS (bl a0_0)))) 1 (ByteArray.size (mk (vis (anS (bl a0_0))))))) : Int))
            (some [(.int IntKind.i64 (0)), (.str (mk (List.drop (List.length (vis (anS (bl a0_0)))) (anS (bl a0_0))))), (.bool (true))])
            (cond (byI (mk (vis (anS (bl a0_0)))) 0 == 45)
             (some [(.int IntKind.i64 (0)), (.str (mk (List.drop (List.length (vis (anS (bl a0_0)))) (anS (bl a0_0))))), (.bool (true))])
             (G (anum_q11 (ByteArray.extract (mk (vis (anS (bl a0_0)))) 1 (ByteArray.size (mk (vis (anS (bl a0_0)))))) (byI (mk (vis (anS (bl a0_0)))) 0 == 45) 0 0 (mk (List.drop (List.length (vis (anS (bl a0_0)))) (anS (bl a0_0)))) (anB (bl a0_0) a0_1 || !awOk (vis (anS (bl a0_0))))))))
           (G (anum_q11 (ByteArray.extract (mk (vis (anS (bl a0_0)))) 1 (ByteArray.size (mk (vis (anS (bl a0_0)))))) (byI (mk (vis (anS (bl a0_0)))) 0 == 45) 0 0 (mk (List.drop (List.length (vis (anS (bl a0_0)))) (anS (bl a0_0)))) (anB (bl a0_0) a0_1 || !awOk (vis (anS (bl a0_0)))))))
          none)))
       none)
      (cond (ltI (↑(ByteArray.size (mk (vis (anS (bl a0_0))))) : Int) 1)
       (some [(.int IntKind.i64 (0)), (.str (mk (List.drop (List.length (vis (anS (bl a0_0)))) (anS (bl a0_0))))), (.bool (true))])
       (cond (ltI 9 (↑(ByteArray.size (mk (vis (anS (bl a0_0))))) : Int))
        (some [(.int IntKind.i64 (0)), (.str (mk (List.drop (List.length (vis (anS (bl a0_0)))) (anS (bl a0_0))))), (.bool (true))])
        (cond (ltI 0 (↑(ByteArray.size (mk (vis (anS (bl a0_0))))) : Int))
         (cond (byI (mk (vis (anS (bl a0_0)))) 0 == 48)
          (cond (ltI 1 (↑(ByteArray.size (mk (vis (anS (bl a0_0))))) : Int))
           (some [(.int IntKind.i64 (0)), (.str (mk (List.drop (List.length (vis (anS (bl a0_0)))) (anS (bl a0_0))))), (.bool (true))])
           (cond (byI (mk (vis (anS (bl a0_0)))) 0 == 45)
            (some [(.int IntKind.i64 (0)), (.str (mk (List.drop (List.length (vis (anS (bl a0_0)))) (anS (bl a0_0))))), (.bool (true))])
            (G (anum_q11 (mk (vis (anS (bl a0_0)))) (byI (mk (vis (anS (bl a0_0)))) 0 == 45) 0 0 (mk (List.drop (List.length (vis (anS (bl a0_0)))) (anS (bl a0_0)))) (anB (bl a0_0) a0_1 || !awOk (vis (anS (bl a0_0))))))))
          (G (anum_q11 (mk (vis (anS (bl a0_0)))) (byI (mk (vis (anS (bl a0_0)))) 0 == 45) 0 0 (mk (List.drop (List.length (vis (anS (bl a0_0)))) (anS (bl a0_0)))) (anB (bl a0_0) a0_1 || !awOk (vis (anS (bl a0_0)))))))
         none))))
     none)
    (cond (ltI (↑(ByteArray.size (mk (vis (anS (bl a0_0))))) : Int) 1)
     (some [(.int IntKind.i64 (0)), (.str (mk (List.drop (List.length (vis (anS (bl a0_0)))) (anS (bl a0_0))))), (.bool (true))])
     (cond (ltI 9 (↑(ByteArray.size (mk (vis (anS (bl a0_0))))) : Int))
      (some [(.int IntKind.i64 (0)), (.str (mk (List.drop (List.length (vis (anS (bl a0_0)))) (anS (bl a0_0))))), (.bool (true))])
      (cond (ltI 0 (↑(ByteArray.size (mk (vis (anS (bl a0_0))))) : Int))
       (cond (byI (mk (vis (anS (bl a0_0)))) 0 == 48)
        (cond (ltI 1 (↑(ByteArray.size (mk (vis (anS (bl a0_0))))) : Int))
         (some [(.int IntKind.i64 (0)), (.str (mk (List.drop (List.length (vis (anS (bl a0_0)))) (anS (bl a0_0))))), (.bool (true))])
         (G (anum_q11 (mk (vis (anS (bl a0_0)))) false 0 0 (mk (List.drop (List.length (vis (anS (bl a0_0)))) (anS (bl a0_0)))) (anB (bl a0_0) a0_1 || !awOk (vis (anS (bl a0_0)))))))
        (G (anum_q11 (mk (vis (anS (bl a0_0)))) false 0 0 (mk (List.drop (List.length (vis (anS (bl a0_0)))) (anS (bl a0_0)))) (anB (bl a0_0) a0_1 || !awOk (vis (anS (bl a0_0)))))))
       none))))
   none) := by kernel_rfl
theorem anum_p11 (G : Req → R) (d4 : ByteArray) (minus5 : Bool) (n6 : Int) (i7 : Int) (h0_0 : ByteArray) (h0_1 : Bool) : runB (cfg [k_aword]) G (anum_q11 d4 minus5 n6 i7 h0_0 h0_1) =
  (cond (ltI i7 (↑(ByteArray.size d4) : Int))
   (cond (leI 0 i7 && ltI i7 (↑(ByteArray.size d4) : Int))
    (cond (ltI (byI d4 i7) 48)
     (some [(.int IntKind.i64 (0)), (.str (h0_0)), (.bool (true))])
     (cond (leI 0 i7 && ltI i7 (↑(ByteArray.size d4) : Int))
      (cond (ltI 57 (byI d4 i7))
       (some [(.int IntKind.i64 (0)), (.str (h0_0)), (.bool (true))])
       (cond (leI 0 i7 && ltI i7 (↑(ByteArray.size d4) : Int))
        (G (anum_q11 d4 minus5 (wrapI IntKind.i64 (wrapI IntKind.i64 (n6 * 10) + wrapI IntKind.i64 (wrapI IntKind.u8 (byI d4 i7 - 48)))) (wrapI IntKind.i64 (i7 + 1)) h0_0 h0_1))
        none))
      none))
    none)
   (cond (minus5)
    (some [(.int IntKind.i64 (wrapI IntKind.i64 (0 - n6))), (.str (h0_0)), (.bool (h0_1))])
    (some [(.int IntKind.i64 (n6)), (.str (h0_0)), (.bool (h0_1))]))) := by kernel_rfl

end Go.Ab
namespace Go.Ab
open Go.Proofs

theorem hasP_l : ∀ (p s : List UInt8), (s.take p.length == p) = p.isPrefixOf s
  | [], s => by simp
  | c :: p, [] => by simp [List.isPrefixOf]
  | c :: p, x :: s => by
    have ih := hasP_l p s
    simp only [List.length_cons, List.take_succ_cons, List.isPrefixOf, ← ih]
    show ((x :: List.take p.length s) == c :: p) = _
    rw [Bool.eq_iff_iff, Bool.and_eq_true, beq_iff_eq, beq_iff_eq, beq_iff_eq, List.cons.injEq]
    exact ⟨fun h => ⟨h.1.symm, h.2⟩, fun h => ⟨h.1.symm, h.2⟩⟩
theorem isPre_len : ∀ (p s : List UInt8), p.isPrefixOf s = true → p.length ≤ s.length
  | [], _, _ => Nat.zero_le _
  | c :: p, [], h => by simp [List.isPrefixOf] at h
  | c :: p, x :: s, h => by
    simp only [List.isPrefixOf, Bool.and_eq_true] at h
    have := isPre_len p s h.2
    simp only [List.length_cons]; omega
theorem hasP_holds : Holds k_hasP := con_run (xs := []) hold0 fun aa hp r h => by
  split at h
  case h_2 => cases h
  rename_i s p
  obtain ⟨g, rfl⟩ := xo h
  obtain ⟨s, rfl⟩ := str_cases s
  obtain ⟨p, rfl⟩ := str_cases p
  refine Runs.by (hasP_e · _ _) ?_
  simp only [size_mk, bl_mk]
  by_cases hl : p.length ≤ s.length
  · simp (disch := omega) only [ev_le_t, cond_true, Bool.and_self, Int.toNat_natCast, ext_mk, bl_mk, List.drop_zero]
    rw [hasP_l]
    exact .ret
  · simp (disch := omega) only [ev_le_f, cond_false]
    have : p.isPrefixOf s = false := by
      rw [← Bool.not_eq_true]
      intro h
      exact hl (isPre_len p s h)
    rw [this]
    exact .ret
theorem min_pre (s : W) : ([45] : W).isPrefixOf s = isMin s := by
  cases s with
  | nil => rfl
  | cons c t =>
    show ((45 : UInt8) == c && true) = (c.toNat == 45)
    rw [Bool.and_true, Bool.eq_iff_iff, beq_iff_eq, beq_iff_eq]
    constructor
    · intro h; rw [← h]; rfl
    · intro h; exact (UInt8.toNat_inj.1 h).symm
theorem min_len {s : W} (h : isMin s = true) : 1 ≤ s.length := by
  cases s with
  | nil => cases h
  | cons c t => simp
theorem trim2_holds : Holds k_trim2 := con_run (xs := [k_hasP]) (hold1 hasP_holds hold0) fun aa hp r h => by
  split at h
  case h_2 => cases h
  rename_i s p
  obtain ⟨g, rfl⟩ := xo h
  rw [Bool.and_eq_true] at g
  have g1 := Nat.le_of_ble_eq_true g.1
  have g2 : bl p = [45] := by simpa using g.2
  obtain ⟨s, rfl⟩ := str_cases s
  obtain ⟨p, rfl⟩ := str_cases p
  have g2 : p = [45] := g2
  subst g2
  refine Runs.by (trim2_e · _ _) ?_
  have e : List.isPrefixOf (bl (mk [45])) (bl (mk s)) = isMin s := min_pre s
  rw [size_mk] at g1
  have g3 : Nat.ble ((mk s).size) 1000000000 = true := Nat.ble_eq_true_of_le (by rw [size_mk]; omega)
  have g4 : Nat.ble ((mk [45]).size) 1000000000 = true := rfl
  rw [e, g3, g4]
  show RunsF _ _ [.str (mk (digs s))]
  unfold digs
  cases hm : isMin s
  · exact .ret
  · have := min_len hm
    have h1 : ((([45] : W).length : Nat) : Int) = 1 := rfl
    simp (disch := omega) only [size_mk, h1, ev_le_t, Bool.and_self, cond_true]
    have h2 : (mk s).extract (Int.toNat 1) s.length = mk (s.drop 1) := ext_all s 1
    rw [h2]
    exact .ret
theorem trim_holds : Holds k_trim := con_run (xs := [k_trim2]) (hold1 trim2_holds hold0) fun aa hp r h => by
  simp only [k_trim2] at h
  split at h
  case h_2 => cases h
  rename_i s p
  obtain ⟨g, rfl⟩ := xo h
  refine Runs.by (trim_e · _ _) ?_
  rw [g]
  exact .ret

theorem isDg_eq (c : UInt8) : isDg c = decide (48 ≤ c.toNat ∧ c.toNat ≤ 57) := by
  unfold isDg
  rw [Bool.eq_iff_iff, Bool.and_eq_true, Nat.ble_eq, Nat.ble_eq, decide_eq_true_eq]
theorem isDg_t {c : UInt8} (h1 : 48 ≤ c.toNat) (h2 : c.toNat ≤ 57) : isDg c = true := by rw [isDg_eq]; simp [h1, h2]
theorem isDg_lo {c : UInt8} (h1 : c.toNat < 48) : isDg c = false := by rw [isDg_eq]; simp; omega
theorem isDg_hi {c : UInt8} (h1 : 57 < c.toNat) : isDg c = false := by rw [isDg_eq]; simp; omega
def stepN (n : Nat) (c : UInt8) : Nat := 10 * n + (c.toNat - 48)
theorem numV_eq (s : W) : numV s = s.foldl stepN 0 := rfl
theorem dig_w {c : UInt8} (h1 : 48 ≤ c.toNat) (h2 : c.toNat ≤ 57) : wrapI .i64 (wrapI .u8 ((c.toNat : Int) - 48)) = ((c.toNat - 48 : Nat) : Int) := by
  rw [w8 (by omega) (by omega), w64 (by omega) (by omega)]
  omega
theorem u8lt (c : UInt8) : c.toNat < 256 := c.toNat_lt
/-- What a loop over digits ends with. -/
def numT (mn : Bool) (d : W) (n : Nat) (s : W) (b : Bool) : List L := cond (d.all isDg) (.int .i64 (cond mn (-(d.foldl stepN n : Nat)) (d.foldl stepN n : Nat)) :: stR s b) (.int .i64 0 :: stR s true)
theorem pow_lo {i : Nat} (h : i ≤ 9) : 10 ^ i ≤ 1000000000 := Nat.le_trans (Nat.pow_le_pow_right (by decide) h) (by decide)
theorem pnum_loop (w d s : W) (b : Bool) (hd : d.length ≤ 9) (hw : w.length ≤ 1000000) : ∀ m i n : Nat, i + m = d.length → n + 1 ≤ 30 * 10 ^ i →
    Runs (cfg [k_raw, k_trim]) (pnum_q8 (mk w) (mk d) (n : Nat) (d.length : Nat) (i : Nat) (mk s) b) (numT (ltI (d.length : Nat) (w.length : Nat)) (d.drop i) n s b)
  | 0, i, n, h, hn => by
    have := pow_lo (i := i) (by omega)
    refine Runs.by (pnum_p8 · _ _ _ _ _ _ _) ?_
    simp (disch := omega) only [ev_lt_f, cond_false, size_mk]
    rw [drop_end (by omega), w64 (n := 0 - (n : Int)) (by omega) (by omega), Int.zero_sub]
    unfold numT stR
    cases ltI (d.length : Nat) (w.length : Nat) <;> exact .ret
  | m + 1, i, n, h, hn => by
    have hp := pow_lo (i := i) (by omega)
    refine Runs.by (pnum_p8 · _ _ _ _ _ _ _) ?_
    rw [drop_at (0 : UInt8) (l := d) (i := i) (by omega)]
    unfold numT
    simp (disch := omega) only [ev_lt_t, ev_le_t, Bool.and_self, cond_true, size_mk, byI_mk, List.all_cons, List.foldl_cons]
    generalize hc : d.getD i 0 = c
    have hlt := u8lt c
    by_cases h1 : c.toNat < 48
    · rw [ev_lt_t (by omega), isDg_lo h1]
      exact .ret
    · rw [ev_lt_f (by omega)]
      by_cases h2 : 57 < c.toNat
      · rw [ev_lt_t (by omega), isDg_hi h2]
        exact .ret
      · have ih := pnum_loop w d s b hd hw m (i + 1) (stepN n c) (by omega) (by unfold stepN; rw [Nat.pow_succ]; omega)
        rw [ev_lt_f (by omega), isDg_t (by omega) (by omega), dig_w (by omega) (by omega)]
        rw [w64 (n := 10 * (n : Int)) (by omega) (by omega), w64 (n := 10 * (n : Int) + _) (by omega) (by omega), w64 (n := (i : Int) + 1) (by omega) (by omega)]
        have e : (10 * (n : Int) + ((c.toNat - 48 : Nat) : Int)) = (stepN n c : Nat) := by unfold stepN; omega
        have e2 : ((i : Int) + 1) = ((i + 1 : Nat) : Int) := by omega
        rw [e, e2]
        exact .go ih
theorem anum_loop (d s : W) (mn b : Bool) (hd : d.length ≤ 9) : ∀ m i n : Nat, i + m = d.length → n + 1 ≤ 30 * 10 ^ i →
    Runs (cfg [k_aword]) (anum_q11 (mk d) mn (n : Nat) (i : Nat) (mk s) b) (numT mn (d.drop i) n s b)
  | 0, i, n, h, hn => by
    have := pow_lo (i := i) (by omega)
    refine Runs.by (anum_p11 · _ _ _ _ _ _) ?_
    simp (disch := omega) only [ev_lt_f, cond_false, size_mk]
    rw [drop_end (by omega), w64 (n := 0 - (n : Int)) (by omega) (by omega), Int.zero_sub]
    unfold numT stR
    cases mn <;> exact .ret
  | m + 1, i, n, h, hn => by
    have hp := pow_lo (i := i) (by omega)
    refine Runs.by (anum_p11 · _ _ _ _ _ _) ?_
    rw [drop_at (0 : UInt8) (l := d) (i := i) (by omega)]
    unfold numT
    simp (disch := omega) only [ev_lt_t, ev_le_t, Bool.and_self, cond_true, size_mk, byI_mk, List.all_cons, List.foldl_cons]
    generalize hc : d.getD i 0 = c
    have hlt := u8lt c
    by_cases h1 : c.toNat < 48
    · rw [ev_lt_t (by omega), isDg_lo h1]
      exact .ret
    · rw [ev_lt_f (by omega)]
      by_cases h2 : 57 < c.toNat
      · rw [ev_lt_t (by omega), isDg_hi h2]
        exact .ret
      · have ih := anum_loop d s mn b hd m (i + 1) (stepN n c) (by omega) (by unfold stepN; rw [Nat.pow_succ]; omega)
        rw [ev_lt_f (by omega), isDg_t (by omega) (by omega), dig_w (by omega) (by omega)]
        rw [w64 (n := (n : Int) * 10) (by omega) (by omega), w64 (n := (n : Int) * 10 + _) (by omega) (by omega), w64 (n := (i : Int) + 1) (by omega) (by omega)]
        have e : ((n : Int) * 10 + ((c.toNat - 48 : Nat) : Int)) = (stepN n c : Nat) := by unfold stepN; omega
        have e2 : ((i : Int) + 1) = ((i + 1 : Nat) : Int) := by omega
        rw [e, e2]
        exact .go ih
theorem digs_len (w : W) : (digs w).length ≤ w.length ∧ ltI ((digs w).length : Nat) (w.length : Nat) = isMin w := by
  unfold digs
  cases h : isMin w
  · exact ⟨Nat.le_refl _, ev_lt_f (Int.le_refl _)⟩
  · have := min_len h
    show (w.drop 1).length ≤ _ ∧ ltI ((w.drop 1).length : Nat) _ = _
    rw [List.length_drop]
    exact ⟨by omega, ev_lt_t (by omega)⟩
/-- What the two heads come to. -/
theorem numT_ok {w s : W} {b : Bool} (h1 : 1 ≤ (digs w).length) (h2 : (digs w).length ≤ 9) (h3 : (((digs w).getD 0 0).toNat == 48 && !decide (w = [48])) = false) :
    numT (isMin w) (digs w) 0 s b = .int .i64 (numR w) :: stR s (b || !numOk w) := by
  have e : numOk w = (digs w).all isDg := by
    unfold numOk
    rw [Nat.ble_eq_true_of_le h1, Nat.ble_eq_true_of_le h2, h3]
    simp
  unfold numT numR numZ
  rw [e, ← numV_eq]
  cases (digs w).all isDg
  · rw [Bool.not_false, Bool.or_true]; rfl
  · rw [Bool.not_true, Bool.or_false]; rfl
theorem numR_bad {w : W} (h : numOk w = false) : numR w = 0 := by unfold numR; rw [h]; rfl
theorem pnum_holds : Holds k_pnum := conRd_of (ks := [k_raw, k_trim]) (hold1 raw_ok (hold1 trim_holds hold0)) fun s b g => by
  have g' := sm_of g
  have hw := rwW_len s b
  have hfst : nxO s b = false → rwW s b = [] := fun h => by unfold rwW; rw [h]; rfl
  refine Runs.by (pnum_e · _ _) ?_
  have eb : bl (mk s) = s := rfl
  simp only [eb]
  generalize hq : rwW s b = w at *
  have eb2 : bl (mk w) = w := rfl
  simp only [eb2, g, cond_true, size_mk, beq_nil, Nat.ble_eq_true_of_le (show w.length ≤ 1000000 by omega), Bool.and_self]
  obtain ⟨d1, d2⟩ := digs_len w
  have bad : numOk w = false → RunsF (cfg [k_raw, k_trim]) (fun _ => some [.int .i64 0, .str (mk (rwS s b)), .bool true]) (.int .i64 (numR w) :: stR (rwS s b) (!(nxO s b && numOk w))) := fun h => by
    rw [numR_bad h, h, Bool.and_false]
    exact .ret
  refine RunsF.cond (fun hc => bad ?_) (fun hc => ?_)
  · have : digs w = [] := List.isEmpty_iff.1 hc
    unfold numOk
    rw [this]; rfl
  · have h1 : 1 ≤ (digs w).length := by
      cases hd : digs w with
      | nil => rw [hd] at hc; cases hc
      | cons => simp
    refine RunsF.cond (fun hd => bad ?_) (fun hd => ?_)
    · have hd := ltI_t hd
      have : Nat.ble (digs w).length 9 = false := by rw [← Bool.not_eq_true, Nat.ble_eq]; omega
      unfold numOk
      rw [this, Bool.false_and, Bool.and_false]
    · have hd := ltI_f hd
      have hok : nxO s b = true := by
        cases h : nxO s b
        · have := hfst h
          rw [this] at h1
          exact absurd h1 (by decide)
        · rfl
      have e0 : byI (mk (digs w)) 0 = (((digs w).getD 0 0).toNat : Int) := byI_mk _ 0
      have e1 : ((((digs w).getD 0 0).toNat : Int) == 48) = (((digs w).getD 0 0).toNat == 48) := by
        rw [Bool.eq_iff_iff, beq_iff_eq, beq_iff_eq]; omega
      have e2 : (bl (mk w) == bl (mk [48])) = decide (w = [48]) := by
        rw [Bool.eq_iff_iff, beq_iff_eq, decide_eq_true_eq]
      have lp := fun (hz : (((digs w).getD 0 0).toNat == 48 && !decide (w = [48])) = false) => by
        have := pnum_loop w (digs w) (rwS s b) (!nxO s b) (by omega) (by omega) _ 0 0 (Nat.zero_add _) (by decide)
        rw [d2, List.drop_zero, numT_ok h1 (by omega) hz] at this
        exact this
      rw [hok] at lp ⊢
      simp only [Bool.not_true, Bool.false_or, Bool.true_and] at lp ⊢
      rw [e0, e1, ev_lt_t (by omega)]
      simp only [cond_true, show (w == bl (mk [48])) = decide (w = [48]) from e2]
      cases hz : ((digs w).getD 0 0).toNat == 48
      · exact .go (lp (by rw [hz]; rfl))
      · cases hy : decide (w = [48])
        · have := bad (by unfold numOk; rw [hz, hy]; simp)
          rw [hok, Bool.true_and] at this
          exact this
        · exact .go (lp (by rw [hz, hy]; rfl))
end Go.Ab
namespace Go.Ab
open Go.Proofs

theorem min_by (w : W) (h : 1 ≤ w.length) : (byI (mk w) 0 == 45) = isMin w := by
  cases w with
  | nil => cases h
  | cons c t =>
    have e0 : byI (mk (c :: t)) 0 = (c.toNat : Int) := byI_mk (c :: t) 0
    rw [e0]
    show _ = (c.toNat == 45)
    rw [Bool.eq_iff_iff, beq_iff_eq, beq_iff_eq]; omega
theorem by48 (d : W) : (byI (mk d) 0 == 48) = ((d.getD 0 0).toNat == 48) := by
  have e0 : byI (mk d) 0 = ((d.getD 0 0).toNat : Int) := byI_mk d 0
  rw [e0, Bool.eq_iff_iff, beq_iff_eq, beq_iff_eq]; omega
theorem is48 {w : W} (h : (w.getD 0 0).toNat = 48) (hl : w.length = 1) : w = [48] := by
  match w, hl with
  | [c], _ =>
    have : c = 48 := UInt8.toNat_inj.1 h
    rw [this]
theorem anum_holds : Holds k_anum := conRd_of (ks := [k_aword]) (hold1 aword_holds hold0) fun s b g => by
  have g' := sm_of g
  have hw : (vis (anS s)).length ≤ s.length := Nat.le_trans (vis_le _) (anS_len s)
  refine Runs.by (anum_e · _ _) ?_
  unfold anW anR anW
  have eb : bl (mk s) = s := rfl
  simp only [eb]
  generalize hR : (anS s).drop (vis (anS s)).length = R at *
  generalize hq : vis (anS s) = w at *
  simp only [g, cond_true, size_mk]
  obtain ⟨d1, d2⟩ := digs_len w
  have bad : numOk w = false → RunsF (cfg [k_aword]) (fun _ => some [.int .i64 0, .str (mk R), .bool true]) (.int .i64 (numR w) :: stR R (anB s b || (!awOk w || !numOk w))) := fun h => by
    rw [numR_bad h, h, Bool.not_false, Bool.or_true, Bool.or_true]
    exact .ret
  have lp : ∀ mn, mn = isMin w → 1 ≤ (digs w).length → (digs w).length ≤ 9 → (((digs w).getD 0 0).toNat == 48 && !decide (w = [48])) = false →
      Runs (cfg [k_aword]) (anum_q11 (mk (digs w)) mn 0 0 (mk R) (anB s b || !awOk w)) (.int .i64 (numR w) :: stR R (anB s b || (!awOk w || !numOk w))) := fun mn hmn h1 h2 h3 => by
    have := anum_loop (digs w) R mn (anB s b || !awOk w) h2 _ 0 0 (Nat.zero_add _) (by decide)
    rw [List.drop_zero, hmn, numT_ok h1 h2 h3, Bool.or_assoc] at this
    rw [hmn]
    exact this
  have nok1 : (digs w).length < 1 → numOk w = false := fun h => by
    have : Nat.ble 1 (digs w).length = false := by rw [← Bool.not_eq_true, Nat.ble_eq]; omega
    unfold numOk
    rw [this]; rfl
  have nok2 : 9 < (digs w).length → numOk w = false := fun h => by
    have : Nat.ble (digs w).length 9 = false := by rw [← Bool.not_eq_true, Nat.ble_eq]; omega
    unfold numOk
    rw [this, Bool.false_and, Bool.and_false]
  have nok3 : (((digs w).getD 0 0).toNat == 48) = true → w ≠ [48] → numOk w = false := fun h h' => by
    unfold numOk
    rw [h, decide_eq_false h']; simp
  by_cases h0 : 1 ≤ w.length
  · rw [ev_lt_t (show (0 : Int) < (w.length : Nat) by omega)]
    simp only [cond_true, min_by w h0]
    cases hm : isMin w
    · have ed : digs w = w := by unfold digs; rw [hm]; rfl
      rw [ed] at lp nok2 nok3
      simp only [cond_false, by48]
      rw [ev_lt_f (show (1 : Int) ≤ (w.length : Nat) by omega)]
      simp only [cond_false]
      refine RunsF.cond (fun hd => bad (nok2 (by have := ltI_t hd; omega))) (fun hd => ?_)
      have hd := ltI_f hd
      cases hz : (w.getD 0 0).toNat == 48
      · exact .go (lp _ hm.symm h0 (by omega) (by rw [hz]; rfl))
      · simp only [cond_true]
        refine RunsF.cond (fun he => ?_) (fun he => ?_)
        · have he := ltI_t he
          exact bad (nok3 hz fun e => by rw [e] at he; exact absurd he (by decide))
        · have he := ltI_f he
          have e48 := is48 (beq_iff_eq.1 hz) (by omega)
          exact .go (lp _ hm.symm h0 (by omega) (by rw [hz, decide_eq_true e48]; rfl))
    · have ed : digs w = w.drop 1 := by unfold digs; rw [hm]; rfl
      have ne48 : w ≠ [48] := fun e => by rw [e] at hm; cases hm
      have ex : (mk w).extract 1 w.length = mk (digs w) := by rw [ext_all, ed]
      simp (disch := omega) only [ev_le_t, cond_true, ex, size_mk, by48]
      refine RunsF.cond (fun hc => bad (nok1 (by have := ltI_t hc; omega))) (fun hc => ?_)
      have hc := ltI_f hc
      refine RunsF.cond (fun hd => bad (nok2 (by have := ltI_t hd; omega))) (fun hd => ?_)
      have hd := ltI_f hd
      rw [ev_lt_t (show (0 : Int) < ((digs w).length : Nat) by omega)]
      simp only [cond_true]
      cases hz : ((digs w).getD 0 0).toNat == 48
      · exact .go (lp _ hm.symm (by omega) (by omega) (by rw [hz]; rfl))
      · simp only [cond_true]
        refine RunsF.cond (fun he => bad (nok3 hz ne48)) (fun he => ?_)
        exact bad (nok3 hz ne48)
  · have e : w = [] := List.eq_nil_of_length_eq_zero (by omega)
    subst e
    exact bad rfl
end Go.Ab
namespace Go.Ab
open Go.Proofs

theorem c_aw_holds : Holds c_aw := aword_holds
theorem c_an_holds : Holds c_an := anum_holds
theorem c_at_holds : Holds c_at := atext_holds
theorem c_pw_holds : Holds c_pw := pword_ok
theorem c_pn_holds : Holds c_pn := pnum_holds
theorem c_pt_holds : Holds c_pt := ptext_holds
theorem anS_lt {s : W} (h : s ≠ []) : (anS s).length < s.length := by
  unfold anS
  have := List.length_pos_iff.2 h
  cases isBlk s
  · exact this
  · show (s.drop 1).length < _
    rw [List.length_drop]; omega
theorem anR_le' (s : W) : (anR s).length ≤ (anS s).length := by
  unfold anR
  rw [List.length_drop]; omega
theorem anR_lt {s : W} (h : s ≠ []) : (anR s).length < s.length := Nat.lt_of_le_of_lt (anR_le' s) (anS_lt h)
theorem anR_le (s : W) : (anR s).length ≤ s.length := Nat.le_trans (anR_le' s) (anS_len s)
theorem txt_le : ∀ (n : Nat) (s acc o t : W), s.length ≤ n → txt s acc = some (o, t) → t.length ≤ s.length
  | n, [], acc, o, t, _, h => by cases h
  | 0, c :: s, acc, o, t, hn, h => by simp at hn
  | n + 1, c :: s, acc, o, t, hn, h => by
    simp only [List.length_cons] at hn ⊢
    rw [txt_cons] at h
    split at h
    · cases h; omega
    · split at h
      · cases h
      · split at h
        · cases s with
          | nil => cases h
          | cons d s =>
            simp only [List.length_cons] at hn ⊢
            simp only at h
            cases he : esc d with
            | none => rw [he] at h; cases h
            | some e =>
              rw [he] at h
              have := txt_le n s _ o t (by omega) h
              omega
        · have := txt_le n s _ o t (by omega) h
          omega
theorem tR_le (s : W) : (tR s).length ≤ s.length := by
  unfold tR
  cases h : txq s with
  | none => exact Nat.le_refl _
  | some x =>
    unfold txq at h
    cases s with
    | nil => cases h
    | cons c t =>
      simp only at h
      split at h
      · have := txt_le t.length t [] x.1 x.2 (Nat.le_refl _) h
        simp only [List.length_cons]; omega
      · cases h
theorem atS_le (s : W) : (atS s).length ≤ s.length := by
  have h1 := anS_len s
  have h2 := tR_le (anS s)
  unfold atS
  cases atO s
  · exact h1
  · exact Nat.le_trans h2 h1
theorem mo_f {s : W} {b : Bool} (h : mo (s, b) = true) : b = false ∧ s ≠ [] := by
  unfold mo at h
  cases b
  · cases s
    · cases h
    · exact ⟨rfl, by simp⟩
  · cases h
theorem eWs_len (l : List Wr) : (eWs l).length = l.length := List.length_map ..
theorem eRs_len (l : List Ru) : (eRs l).length = l.length := List.length_map ..
theorem eIs_len (l : List Int) : (eIs l).length = l.length := List.length_map ..
theorem eSs_len (l : List W) : (eSs l).length = l.length := List.length_map ..
theorem eWs_snoc (l : List Wr) (x : Wr) : eWs l ++ [[.str (mk x.1), .str (mk x.2.1), .bool x.2.2]] = eWs (l ++ [x]) := by simp [eWs, eW1]
theorem eRs_snoc (l : List Ru) (x : Ru) : eRs l ++ [[.bool x.1, .str (mk x.2.1), .str (mk x.2.2.1), .str (mk x.2.2.2)]] = eRs (l ++ [x]) := by simp [eRs, eR1]
theorem eIs_snoc (l : List Int) (x : Int) : eIs l ++ [[.int .i64 x]] = eIs (l ++ [x]) := by simp [eIs, eI1]
theorem eSs_snoc (l : List W) (x : W) : eSs l ++ [[.str (mk x)]] = eSs (l ++ [x]) := by simp [eSs, eS1]
theorem bm (s : W) : bl (mk s) = s := rfl

def wrR (r : List Wr × Rs) : List L := .lst 51 (eWs r.1) :: stR r.2.1 r.2.2
noncomputable abbrev cw : Cfg := cfg [c_aw, c_at, k_amore]
theorem awrites_loop : ∀ (f : Nat) (s : W) (b : Bool) (a : List Wr), (s.length < f ∨ b = true) → s.length ≤ 1000000 → a.length + f ≤ 1000002 → Runs cw (awrites_q2 (mk s) b (eWs a)) (wrR (lqW f (s, b) a))
  | 0, s, b, a, h, _, _ => by
    have hb : b = true := h.resolve_left (by omega)
    subst hb
    exact Runs.by (awrites_p2 · _ _ _) .ret
  | f + 1, s, b, a, h, h1, h2 => by
    refine Runs.by (awrites_p2 · _ _ _) ?_
    simp only [bm, eWs_len]
    cases hm : mo (s, b) with
    | false =>
      have e : lqW (f + 1) (s, b) a = (a, (s, b)) := by rw [lqW, hm]; rfl
      have hm' : (!b && !List.isEmpty s) = false := hm
      rw [e, hm']
      exact .ret
    | true =>
      have hm' : (!b && !List.isEmpty s) = true := hm
      obtain ⟨hb, hne⟩ := mo_f hm
      rw [hm', sm_t h1]
      have l1 := anR_lt hne
      have l2 := anR_le (anR s)
      have l3 := atS_le (anR (anR s))
      have rm : roomN (a.length + 1) 40 = true := roomN_t (by omega) (by omega)
      have hf : s.length < f + 1 := h.resolve_right (by rw [hb]; decide)
      simp only [cond_true, sm_t (show (anR s).length ≤ 1000000 by omega), sm_t (show (anR (anR s)).length ≤ 1000000 by omega), rm]
      refine RunsF.cond (fun hp => ?_) (fun hp => ?_)
      · have e : lqW (f + 1) (s, b) a = lqW f (sAT (sAW (sAW (s, b)))) (a ++ [(vAW (sAW (s, b)), vAT (sAW (sAW (s, b))), false)]) := by
          rw [lqW, hm, show (vAW (s, b) == wPut) = true from hp]; rfl
        rw [e]
        exact .go (by
          have := awrites_loop f (atS (anR (anR s))) (awTB (anR (anR s)) (awB (anR s) (awB s b))) (a ++ [(anW (anR s), atV (anR (anR s)), false)]) (.inl (by omega)) (by omega) (by simp; omega)
          rw [← eWs_snoc] at this
          exact this)
      · refine RunsF.cond (fun hd => ?_) (fun hd => ?_)
        · have e : lqW (f + 1) (s, b) a = lqW f (sAW (sAW (s, b))) (a ++ [(vAW (sAW (s, b)), [], true)]) := by
            rw [lqW, hm, show (vAW (s, b) == wPut) = false from hp, show (vAW (s, b) == wDel) = true from hd]; rfl
          rw [e]
          exact .go (by
            have := awrites_loop f (anR (anR s)) (awB (anR s) (awB s b)) (a ++ [(anW (anR s), [], true)]) (.inl (by omega)) (by omega) (by simp; omega)
            rw [← eWs_snoc] at this
            exact this)
        · have e : lqW (f + 1) (s, b) a = lqW f ((sAW (s, b)).1, true) a := by
            rw [lqW, hm, show (vAW (s, b) == wPut) = false from hp, show (vAW (s, b) == wDel) = false from hd]; rfl
          rw [e]
          exact .go (awrites_loop f (anR s) true a (.inr rfl) (by omega) (by omega))
theorem writes_holds : Holds k_writes := conRd_of (ks := [c_aw, c_at, k_amore]) (hold1 c_aw_holds (hold1 c_at_holds (hold1 amore_holds hold0))) fun s b g => by
  have g := sm_of g
  exact Runs.by (awrites_e · _ _) (.go (awrites_loop (fu (s, b)) s b [] (.inl (Nat.lt_succ_self _)) g (by show 0 + (s.length + 1) ≤ _; omega)))
end Go.Ab
namespace Go.Ab
open Go.Proofs
/-! codesearch/codesearchref54.event -/
theorem aevent_e (G : Req → R) (kind0 : Int) (a1_0 : ByteArray) (a1_1 : Bool) : runB (cfg [c_aw, c_an, c_at, k_writes, k_group, k_rules]) G (.enter 46 [(.lf (.int IntKind.i64 (kind0))), (.lf (.ptr 0 0))] [(.box [.str, .bool] [(.str (a1_0)), (.bool (a1_1))])]) =
  (cond (kind0 == 22)
   (cond (sm (List.length (bl a1_0)))
    (some [(.int IntKind.i64 (kind0)), (.str (mk (anW (bl a1_0)))), (.str (mk [])), (.str (mk [])), (.int IntKind.i64 (0)), (.int IntKind.i64 (0)), (.int IntKind.i64 (0)), (.int IntKind.i64 (0)), (.str (mk [])), (.str (mk [])), (.lst 3 []), (.lst 9 []), (.lst 65 []), (.lst 51 []), (.str (mk (anR (bl a1_0)))), (.bool (awB (bl a1_0) a1_1))])
    none)
   (cond (kind0 == 5)
    (cond (sm (List.length (bl a1_0)))
     (some [(.int IntKind.i64 (kind0)), (.str (mk (anW (bl a1_0)))), (.str (mk [])), (.str (mk [])), (.int IntKind.i64 (0)), (.int IntKind.i64 (0)), (.int IntKind.i64 (0)), (.int IntKind.i64 (0)), (.str (mk [])), (.str (mk [])), (.lst 3 []), (.lst 9 []), (.lst 65 []), (.lst 51 []), (.str (mk (anR (bl a1_0)))), (.bool (awB (bl a1_0) a1_1))])
     none)
    (cond (kind0 == 20)
     (cond (sm (List.length (bl a1_0)))
      (some [(.int IntKind.i64 (kind0)), (.str (mk (anW (bl a1_0)))), (.str (mk [])), (.str (mk [])), (.int IntKind.i64 (0)), (.int IntKind.i64 (0)), (.int IntKind.i64 (0)), (.int IntKind.i64 (0)), (.str (mk [])), (.str (mk [])), (.lst 3 []), (.lst 9 []), (.lst 65 []), (.lst 51 []), (.str (mk (anR (bl a1_0)))), (.bool (awB (bl a1_0) a1_1))])
      none)
     (cond (kind0 == 1)
      (cond (sm (List.length (bl a1_0)))
       (cond (sm (List.length (bl (mk (anR (bl a1_0))))))
        (cond (sm (List.length (bl (mk (anR (bl (mk (anR (bl a1_0)))))))))
         (cond (sm (List.length (bl (mk (anR (bl (mk (anR (bl (mk (anR (bl a1_0))))))))))))
          (some [(.int IntKind.i64 (kind0)), (.str (mk (anW (bl a1_0)))), (.str (mk (anW (bl (mk (anR (bl a1_0))))))), (.str (mk [])), (.int IntKind.i64 (awN (bl (mk (anR (bl (mk (anR (bl a1_0))))))))), (.int IntKind.i64 (0)), (.int IntKind.i64 (0)), (.int IntKind.i64 (0)), (.str (mk [])), (.str (mk [])), (.lst 3 []), (.lst 9 []), (.lst 65 []), (.lst 51 (eWs (Prod.fst (lqW (fu (bl (mk (anR (bl (mk (anR (bl (mk (anR (bl a1_0))))))))), awNB (bl (mk (anR (bl (mk (anR (bl a1_0))))))) (awB (bl (mk (anR (bl a1_0)))) (awB (bl a1_0) a1_1)))) (bl (mk (anR (bl (mk (anR (bl (mk (anR (bl a1_0))))))))), awNB (bl (mk (anR (bl (mk (anR (bl a1_0))))))) (awB (bl (mk (anR (bl a1_0)))) (awB (bl a1_0) a1_1))) [])))), (.str (mk (Prod.fst (Prod.snd (lqW (fu (bl (mk (anR (bl (mk (anR (bl (mk (anR (bl a1_0))))))))), awNB (bl (mk (anR (bl (mk (anR (bl a1_0))))))) (awB (bl (mk (anR (bl a1_0)))) (awB (bl a1_0) a1_1)))) (bl (mk (anR (bl (mk (anR (bl (mk (anR (bl a1_0))))))))), awNB (bl (mk (anR (bl (mk (anR (bl a1_0))))))) (awB (bl (mk (anR (bl a1_0)))) (awB (bl a1_0) a1_1))) []))))), (.bool (Prod.snd (Prod.snd (lqW (fu (bl (mk (anR (bl (mk (anR (bl (mk (anR (bl a1_0))))))))), awNB (bl (mk (anR (bl (mk (anR (bl a1_0))))))) (awB (bl (mk (anR (bl a1_0)))) (awB (bl a1_0) a1_1)))) (bl (mk (anR (bl (mk (anR (bl (mk (anR (bl a1_0))))))))), awNB (bl (mk (anR (bl (mk (anR (bl a1_0))))))) (awB (bl (mk (anR (bl a1_0)))) (awB (bl a1_0) a1_1))) []))))])
          none)
         none)
        none)
       none)
      (cond (kind0 == 2)
       (cond (sm (List.length (bl a1_0)))
        (cond (sm (List.length (bl (mk (anR (bl a1_0))))))
         (cond (sm (List.length (bl (mk (anR (bl (mk (anR (bl a1_0)))))))))
          (cond (kind0 == 4)
           (cond (sm (List.length (bl (mk (anR (bl (mk (anR (bl (mk (anR (bl a1_0))))))))))))
            (some [(.int IntKind.i64 (kind0)), (.str (mk (anW (bl a1_0)))), (.str (mk (anW (bl (mk (anR (bl a1_0))))))), (.str (mk (anW (bl (mk (anR (bl (mk (anR (bl a1_0)))))))))), (.int IntKind.i64 (awN (bl (mk (anR (bl (mk (anR (bl (mk (anR (bl a1_0)))))))))))), (.int IntKind.i64 (0)), (.int IntKind.i64 (0)), (.int IntKind.i64 (0)), (.str (mk [])), (.str (mk [])), (.lst 3 []), (.lst 9 []), (.lst 65 []), (.lst 51 []), (.str (mk (anR (bl (mk (anR (bl (mk (anR (bl (mk (anR (bl a1_0))))))))))))), (.bool (awNB (bl (mk (anR (bl (mk (anR (bl (mk (anR (bl a1_0)))))))))) (awB (bl (mk (anR (bl (mk (anR (bl a1_0))))))) (awB (bl (mk (anR (bl a1_0)))) (awB (bl a1_0) a1_1)))))])
            none)
           (some [(.int IntKind.i64 (kind0)), (.str (mk (anW (bl a1_0)))), (.str (mk (anW (bl (mk (anR (bl a1_0))))))), (.str (mk (anW (bl (mk (anR (bl (mk (anR (bl a1_0)))))))))), (.int IntKind.i64 (0)), (.int IntKind.i64 (0)), (.int IntKind.i64 (0)), (.int IntKind.i64 (0)), (.str (mk [])), (.str (mk [])), (.lst 3 []), (.lst 9 []), (.lst 65 []), (.lst 51 []), (.str (mk (anR (bl (mk (anR (bl (mk (anR (bl a1_0)))))))))), (.bool (awB (bl (mk (anR (bl (mk (anR (bl a1_0))))))) (awB (bl (mk (anR (bl a1_0)))) (awB (bl a1_0) a1_1))))]))
          none)
         none)
        none)
       (cond (kind0 == 4)
        (cond (sm (List.length (bl a1_0)))
         (cond (sm (List.length (bl (mk (anR (bl a1_0))))))
          (cond (sm (List.length (bl (mk (anR (bl (mk (anR (bl a1_0)))))))))
           (cond (kind0 == 4)
            (cond (sm (List.length (bl (mk (anR (bl (mk (anR (bl (mk (anR (bl a1_0))))))))))))
             (some [(.int IntKind.i64 (kind0)), (.str (mk (anW (bl a1_0)))), (.str (mk (anW (bl (mk (anR (bl a1_0))))))), (.str (mk (anW (bl (mk (anR (bl (mk (anR (bl a1_0)))))))))), (.int IntKind.i64 (awN (bl (mk (anR (bl (mk (anR (bl (mk (anR (bl a1_0)))))))))))), (.int IntKind.i64 (0)), (.int IntKind.i64 (0)), (.int IntKind.i64 (0)), (.str (mk [])), (.str (mk [])), (.lst 3 []), (.lst 9 []), (.lst 65 []), (.lst 51 []), (.str (mk (anR (bl (mk (anR (bl (mk (anR (bl (mk (anR (bl a1_0))))))))))))), (.bool (awNB (bl (mk (anR (bl (mk (anR (bl (mk (anR (bl a1_0)))))))))) (awB (bl (mk (anR (bl (mk (anR (bl a1_0))))))) (awB (bl (mk (anR (bl a1_0)))) (awB (bl a1_0) a1_1)))))])
             none)
            (some [(.int IntKind.i64 (kind0)), (.str (mk (anW (bl a1_0)))), (.str (mk (anW (bl (mk (anR (bl a1_0))))))), (.str (mk (anW (bl (mk (anR (bl (mk (anR (bl a1_0)))))))))), (.int IntKind.i64 (0)), (.int IntKind.i64 (0)), (.int IntKind.i64 (0)), (.int IntKind.i64 (0)), (.str (mk [])), (.str (mk [])), (.lst 3 []), (.lst 9 []), (.lst 65 []), (.lst 51 []), (.str (mk (anR (bl (mk (anR (bl (mk (anR (bl a1_0)))))))))), (.bool (awB (bl (mk (anR (bl (mk (anR (bl a1_0))))))) (awB (bl (mk (anR (bl a1_0)))) (awB (bl a1_0) a1_1))))]))
           none)
          none)
         none)
        (cond (kind0 == 3)
         (cond (sm (List.length (bl a1_0)))
          (cond (sm (List.length (bl (mk (anR (bl a1_0))))))
           (some [(.int IntKind.i64 (kind0)), (.str (mk (anW (bl a1_0)))), (.str (mk (anW (bl (mk (anR (bl a1_0))))))), (.str (mk [])), (.int IntKind.i64 (0)), (.int IntKind.i64 (0)), (.int IntKind.i64 (0)), (.int IntKind.i64 (0)), (.str (mk [])), (.str (mk [])), (.lst 3 []), (.lst 9 []), (.lst 65 []), (.lst 51 []), (.str (mk (anR (bl (mk (anR (bl a1_0))))))), (.bool (awB (bl (mk (anR (bl a1_0)))) (awB (bl a1_0) a1_1)))])
           none)
          none)
         (cond (kind0 == 7)
          (cond (sm (List.length (bl a1_0)))
           (some [(.int IntKind.i64 (kind0)), (.str (mk [])), (.str (mk [])), (.str (mk [])), (.int IntKind.i64 (0)), (.int IntKind.i64 (0)), (.int IntKind.i64 (0)), (.int IntKind.i64 (0)), (.str (mk [])), (.str (mk (vAW (bl a1_0, a1_1)))), (.lst 3 (eIs (Prod.fst (Prod.fst (rG (bl a1_0, a1_1)))))), (.lst 9 (eSs (Prod.snd (Prod.fst (rG (bl a1_0, a1_1)))))), (.lst 65 []), (.lst 51 []), (.str (mk (Prod.fst (Prod.snd (rG (bl a1_0, a1_1)))))), (.bool (Prod.snd (Prod.snd (rG (bl a1_0, a1_1)))))])
           none)
          (cond (kind0 == 8)
           (cond (sm (List.length (bl a1_0)))
            (some [(.int IntKind.i64 (kind0)), (.str (mk [])), (.str (mk [])), (.str (mk [])), (.int IntKind.i64 (0)), (.int IntKind.i64 (0)), (.int IntKind.i64 (0)), (.int IntKind.i64 (0)), (.str (mk [])), (.str (mk [])), (.lst 3 []), (.lst 9 []), (.lst 65 (eRs (Prod.fst (lqR (fu (bl a1_0, a1_1)) (bl a1_0, a1_1) [])))), (.lst 51 []), (.str (mk (Prod.fst (Prod.snd (lqR (fu (bl a1_0, a1_1)) (bl a1_0, a1_1) []))))), (.bool (Prod.snd (Prod.snd (lqR (fu (bl a1_0, a1_1)) (bl a1_0, a1_1) []))))])
            none)
           (cond (kind0 == 9)
            (cond (sm (List.length (bl a1_0)))
             (cond (sm (List.length (bl (mk (anR (bl a1_0))))))
              (cond (kind0 == 9)
               (cond (sm (List.length (bl (mk (atS (bl (mk (anR (bl a1_0)))))))))
                (cond (sm (List.length (bl (mk (anR (bl (mk (atS (bl (mk (anR (bl a1_0))))))))))))
                 (cond (sm (List.length (bl (mk (anR (bl (mk (anR (bl (mk (atS (bl (mk (anR (bl a1_0)))))))))))))))
                  (some [(.int IntKind.i64 (kind0)), (.str (mk [])), (.str (mk [])), (.str (mk [])), (.int IntKind.i64 (awN (bl a1_0))), (.int IntKind.i64 (awN (bl (mk (atS (bl (mk (anR (bl a1_0))))))))), (.int IntKind.i64 (awN (bl (mk (anR (bl (mk (atS (bl (mk (anR (bl a1_0)))))))))))), (.int IntKind.i64 (awN (bl (mk (anR (bl (mk (anR (bl (mk (atS (bl (mk (anR (bl a1_0))))))))))))))), (.str (mk (atV (bl (mk (anR (bl a1_0))))))), (.str (mk [])), (.lst 3 []), (.lst 9 []), (.lst 65 []), (.lst 51 []), (.str (mk (anR (bl (mk (anR (bl (mk (anR (bl (mk (atS (bl (mk (anR (bl a1_0)))))))))))))))), (.bool (awNB (bl (mk (anR (bl (mk (anR (bl (mk (atS (bl (mk (anR (bl a1_0))))))))))))) (awNB (bl (mk (anR (bl (mk (atS (bl (mk (anR (bl a1_0)))))))))) (awNB (bl (mk (atS (bl (mk (anR (bl a1_0))))))) (awTB (bl (mk (anR (bl a1_0)))) (awNB (bl a1_0) a1_1))))))])
                  none)
                 none)
                none)
               (some [(.int IntKind.i64 (kind0)), (.str (mk [])), (.str (mk [])), (.str (mk [])), (.int IntKind.i64 (awN (bl a1_0))), (.int IntKind.i64 (0)), (.int IntKind.i64 (0)), (.int IntKind.i64 (0)), (.str (mk (atV (bl (mk (anR (bl a1_0))))))), (.str (mk [])), (.lst 3 []), (.lst 9 []), (.lst 65 []), (.lst 51 []), (.str (mk (atS (bl (mk (anR (bl a1_0))))))), (.bool (awTB (bl (mk (anR (bl a1_0)))) (awNB (bl a1_0) a1_1)))]))
              none)
             none)
            (cond (kind0 == 10)
             (cond (sm (List.length (bl a1_0)))
              (cond (sm (List.length (bl (mk (anR (bl a1_0))))))
               (cond (kind0 == 9)
                (cond (sm (List.length (bl (mk (atS (bl (mk (anR (bl a1_0)))))))))
                 (cond (sm (List.length (bl (mk (anR (bl (mk (atS (bl (mk (anR (bl a1_0))))))))))))
                  (cond (sm (List.length (bl (mk (anR (bl (mk (anR (bl (mk (atS (bl (mk (anR (bl a1_0)))))))))))))))
                   (some [(.int IntKind.i64 (kind0)), (.str (mk [])), (.str (mk [])), (.str (mk [])), (.int IntKind.i64 (awN (bl a1_0))), (.int IntKind.i64 (awN (bl (mk (atS (bl (mk (anR (bl a1_0))))))))), (.int IntKind.i64 (awN (bl (mk (anR (bl (mk (atS (bl (mk (anR (bl a1_0)))))))))))), (.int IntKind.i64 (awN (bl (mk (anR (bl (mk (anR (bl (mk (atS (bl (mk (anR (bl a1_0))))))))))))))), (.str (mk (atV (bl (mk (anR (bl a1_0))))))), (.str (mk [])), (.lst 3 []), (.lst 9 []), (.lst 65 []), (.lst 51 []), (.str (mk (anR (bl (mk (anR (bl (mk (anR (bl (mk (atS (bl (mk (anR (bl a1_0)))))))))))))))), (.bool (awNB (bl (mk (anR (bl (mk (anR (bl (mk (atS (bl (mk (anR (bl a1_0))))))))))))) (awNB (bl (mk (anR (bl (mk (atS (bl (mk (anR (bl a1_0)))))))))) (awNB (bl (mk (atS (bl (mk (anR (bl a1_0))))))) (awTB (bl (mk (anR (bl a1_0)))) (awNB (bl a1_0) a1_1))))))])
                   none)
                  none)
                 none)
                (some [(.int IntKind.i64 (kind0)), (.str (mk [])), (.str (mk [])), (.str (mk [])), (.int IntKind.i64 (awN (bl a1_0))), (.int IntKind.i64 (0)), (.int IntKind.i64 (0)), (.int IntKind.i64 (0)), (.str (mk (atV (bl (mk (anR (bl a1_0))))))), (.str (mk [])), (.lst 3 []), (.lst 9 []), (.lst 65 []), (.lst 51 []), (.str (mk (atS (bl (mk (anR (bl a1_0))))))), (.bool (awTB (bl (mk (anR (bl a1_0)))) (awNB (bl a1_0) a1_1)))]))
               none)
              none)
             (cond (kind0 == 13)
              (cond (sm (List.length (bl a1_0)))
               (cond (sm (List.length (bl (mk (anR (bl a1_0))))))
                (cond (sm (List.length (bl (mk (anR (bl (mk (anR (bl a1_0)))))))))
                 (some [(.int IntKind.i64 (kind0)), (.str (mk [])), (.str (mk [])), (.str (mk [])), (.int IntKind.i64 (awN (bl a1_0))), (.int IntKind.i64 (awN (bl (mk (anR (bl a1_0)))))), (.int IntKind.i64 (0)), (.int IntKind.i64 (awN (bl (mk (anR (bl (mk (anR (bl a1_0))))))))), (.str (mk [])), (.str (mk [])), (.lst 3 []), (.lst 9 []), (.lst 65 []), (.lst 51 []), (.str (mk (anR (bl (mk (anR (bl (mk (anR (bl a1_0)))))))))), (.bool (awNB (bl (mk (anR (bl (mk (anR (bl a1_0))))))) (awNB (bl (mk (anR (bl a1_0)))) (awNB (bl a1_0) a1_1))))])
                 none)
                none)
               none)
              (cond (kind0 == 6)
               (cond (sm (List.length (bl a1_0)))
                (some [(.int IntKind.i64 (kind0)), (.str (mk [])), (.str (mk [])), (.str (mk [])), (.int IntKind.i64 (0)), (.int IntKind.i64 (awN (bl a1_0))), (.int IntKind.i64 (0)), (.int IntKind.i64 (0)), (.str (mk [])), (.str (mk [])), (.lst 3 []), (.lst 9 []), (.lst 65 []), (.lst 51 []), (.str (mk (anR (bl a1_0)))), (.bool (awNB (bl a1_0) a1_1))])
                none)
               (cond (kind0 == 11)
                (cond (sm (List.length (bl a1_0)))
                 (some [(.int IntKind.i64 (kind0)), (.str (mk [])), (.str (mk [])), (.str (mk [])), (.int IntKind.i64 (0)), (.int IntKind.i64 (awN (bl a1_0))), (.int IntKind.i64 (0)), (.int IntKind.i64 (0)), (.str (mk [])), (.str (mk [])), (.lst 3 []), (.lst 9 []), (.lst 65 []), (.lst 51 []), (.str (mk (anR (bl a1_0)))), (.bool (awNB (bl a1_0) a1_1))])
                 none)
                (cond (kind0 == 14)
                 (cond (sm (List.length (bl a1_0)))
                  (some [(.int IntKind.i64 (kind0)), (.str (mk [])), (.str (mk [])), (.str (mk [])), (.int IntKind.i64 (0)), (.int IntKind.i64 (awN (bl a1_0))), (.int IntKind.i64 (0)), (.int IntKind.i64 (0)), (.str (mk [])), (.str (mk [])), (.lst 3 []), (.lst 9 []), (.lst 65 []), (.lst 51 []), (.str (mk (anR (bl a1_0)))), (.bool (awNB (bl a1_0) a1_1))])
                  none)
                 (cond (kind0 == 15)
                  (cond (sm (List.length (bl a1_0)))
                   (cond (sm (List.length (bl (mk (anR (bl a1_0))))))
                    (some [(.int IntKind.i64 (kind0)), (.str (mk [])), (.str (mk [])), (.str (mk [])), (.int IntKind.i64 (0)), (.int IntKind.i64 (awN (bl a1_0))), (.int IntKind.i64 (awN (bl (mk (anR (bl a1_0)))))), (.int IntKind.i64 (0)), (.str (mk [])), (.str (mk [])), (.lst 3 []), (.lst 9 []), (.lst 65 []), (.lst 51 []), (.str (mk (anR (bl (mk (anR (bl a1_0))))))), (.bool (awNB (bl (mk (anR (bl a1_0)))) (awNB (bl a1_0) a1_1)))])
                    none)
                   none)
                  (cond (kind0 == 17)
                   (cond (sm (List.length (bl a1_0)))
                    (cond (sm (List.length (bl (mk (anR (bl a1_0))))))
                     (some [(.int IntKind.i64 (kind0)), (.str (mk [])), (.str (mk [])), (.str (mk [])), (.int IntKind.i64 (0)), (.int IntKind.i64 (awN (bl a1_0))), (.int IntKind.i64 (awN (bl (mk (anR (bl a1_0)))))), (.int IntKind.i64 (0)), (.str (mk [])), (.str (mk [])), (.lst 3 []), (.lst 9 []), (.lst 65 []), (.lst 51 []), (.str (mk (anR (bl (mk (anR (bl a1_0))))))), (.bool (awNB (bl (mk (anR (bl a1_0)))) (awNB (bl a1_0) a1_1)))])
                     none)
                    none)
                   (cond (kind0 == 18)
                    (cond (sm (List.length (bl a1_0)))
                     (cond (sm (List.length (bl (mk (anR (bl a1_0))))))
                      (some [(.int IntKind.i64 (kind0)), (.str (mk [])), (.str (mk [])), (.str (mk [])), (.int IntKind.i64 (0)), (.int IntKind.i64 (awN (bl a1_0))), (.int IntKind.i64 (awN (bl (mk (anR (bl a1_0)))))), (.int IntKind.i64 (0)), (.str (mk [])), (.str (mk [])), (.lst 3 []), (.lst 9 []), (.lst 65 []), (.lst 51 []), (.str (mk (anR (bl (mk (anR (bl a1_0))))))), (.bool (awNB (bl (mk (anR (bl a1_0)))) (awNB (bl a1_0) a1_1)))])
                      none)
                     none)
                    (cond (kind0 == 16)
                     (cond (sm (List.length (bl a1_0)))
                      (cond (sm (List.length (bl (mk (anR (bl a1_0))))))
                       (cond (sm (List.length (bl (mk (anR (bl (mk (anR (bl a1_0)))))))))
                        (some [(.int IntKind.i64 (kind0)), (.str (mk [])), (.str (mk [])), (.str (mk [])), (.int IntKind.i64 (0)), (.int IntKind.i64 (awN (bl a1_0))), (.int IntKind.i64 (awN (bl (mk (anR (bl a1_0)))))), (.int IntKind.i64 (awN (bl (mk (anR (bl (mk (anR (bl a1_0))))))))), (.str (mk [])), (.str (mk [])), (.lst 3 []), (.lst 9 []), (.lst 65 []), (.lst 51 []), (.str (mk (anR (bl (mk (anR (bl (mk (anR (bl a1_0)))))))))), (.bool (awNB (bl (mk (anR (bl (mk (anR (bl a1_0))))))) (awNB (bl (mk (anR (bl a1_0)))) (awNB (bl a1_0) a1_1))))])
                        none)
                       none)
                      none)
                     (cond (kind0 == 19)
                      (cond (sm (List.length (bl a1_0)))
                       (cond (sm (List.length (bl (mk (anR (bl a1_0))))))
                        (cond (sm (List.length (bl (mk (anR (bl (mk (anR (bl a1_0)))))))))
                         (some [(.int IntKind.i64 (kind0)), (.str (mk [])), (.str (mk [])), (.str (mk [])), (.int IntKind.i64 (0)), (.int IntKind.i64 (awN (bl a1_0))), (.int IntKind.i64 (awN (bl (mk (anR (bl a1_0)))))), (.int IntKind.i64 (awN (bl (mk (anR (bl (mk (anR (bl a1_0))))))))), (.str (mk [])), (.str (mk [])), (.lst 3 []), (.lst 9 []), (.lst 65 []), (.lst 51 []), (.str (mk (anR (bl (mk (anR (bl (mk (anR (bl a1_0)))))))))), (.bool (awNB (bl (mk (anR (bl (mk (anR (bl a1_0))))))) (awNB (bl (mk (anR (bl a1_0)))) (awNB (bl a1_0) a1_1))))])
                         none)
                        none)
                       none)
                      (cond (kind0 == 21)
                       (cond (sm (List.length (bl a1_0)))
                        (cond (sm (List.length (bl (mk (anR (bl a1_0))))))
                         (cond (sm (List.length (bl (mk (anR (bl (mk (anR (bl a1_0)))))))))
                          (cond (sm (List.length (bl (mk (anR (bl (mk (anR (bl (mk (anR (bl a1_0))))))))))))
                           (cond (sm (List.length (bl (mk (atS (bl (mk (anR (bl (mk (anR (bl (mk (anR (bl a1_0)))))))))))))))
                            (some [(.int IntKind.i64 (kind0)), (.str (mk (anW (bl (mk (anR (bl a1_0))))))), (.str (mk (anW (bl (mk (anR (bl (mk (anR (bl a1_0)))))))))), (.str (mk (atV (bl (mk (atS (bl (mk (anR (bl (mk (anR (bl (mk (anR (bl a1_0)))))))))))))))), (.int IntKind.i64 (awN (bl a1_0))), (.int IntKind.i64 (0)), (.int IntKind.i64 (0)), (.int IntKind.i64 (0)), (.str (mk (atV (bl (mk (anR (bl (mk (anR (bl (mk (anR (bl a1_0))))))))))))), (.str (mk [])), (.lst 3 []), (.lst 9 []), (.lst 65 []), (.lst 51 []), (.str (mk (atS (bl (mk (atS (bl (mk (anR (bl (mk (anR (bl (mk (anR (bl a1_0)))))))))))))))), (.bool (awTB (bl (mk (atS (bl (mk (anR (bl (mk (anR (bl (mk (anR (bl a1_0))))))))))))) (awTB (bl (mk (anR (bl (mk (anR (bl (mk (anR (bl a1_0)))))))))) (awB (bl (mk (anR (bl (mk (anR (bl a1_0))))))) (awB (bl (mk (anR (bl a1_0)))) (awNB (bl a1_0) a1_1))))))])
                            none)
                           none)
                          none)
                         none)
                        none)
                       (some [(.int IntKind.i64 (kind0)), (.str (mk [])), (.str (mk [])), (.str (mk [])), (.int IntKind.i64 (0)), (.int IntKind.i64 (0)), (.int IntKind.i64 (0)), (.int IntKind.i64 (0)), (.str (mk [])), (.str (mk [])), (.lst 3 []), (.lst 9 []), (.lst 65 []), (.lst 51 []), (.str (a1_0)), (.bool (a1_1))])))))))))))))))))))))) := by kernel_rfl

end Go.Ab
namespace Go.Ab
open Go.Proofs

noncomputable abbrev cg : Cfg := cfg [c_aw, c_an, k_amore]
def grR (nm : W) (r : (List Int × List W) × Rs) : List L := .str (mk nm) :: .lst 3 (eIs r.1.1) :: .lst 9 (eSs r.1.2) :: stR r.2.1 r.2.2
theorem isE_len {α : Type} (l : List α) : l.isEmpty = !ltI 0 (l.length : Nat) := by
  cases l with
  | nil => rfl
  | cons a l => rw [ev_lt_t (by simp only [List.length_cons]; omega)]; rfl
theorem agroup_loop (nm : W) (h1_0 : ByteArray) (h3 h4 : List (List L)) : ∀ (f : Nat) (s : W) (b : Bool) (u : List Int) (g : List W), (s.length < f ∨ b = true) → s.length ≤ 1000000 → u.length + f ≤ 1000002 → g.length + f ≤ 1000002 →
    Runs cg (agroup_q2 (mk s) b h1_0 (mk nm) h3 h4 (eIs u) (eSs g)) (grR nm (lqG f (s, b) u g))
  | 0, s, b, u, g, h, _, _, _ => by
    have hb : b = true := h.resolve_left (by omega)
    subst hb
    exact Runs.by (agroup_p2 · _ _ _ _ _ _ _ _) .ret
  | f + 1, s, b, u, g, h, h1, h2, h2' => by
    refine Runs.by (agroup_p2 · _ _ _ _ _ _ _ _) ?_
    simp only [bm, eIs_len, eSs_len, dupN_eq]
    cases hm : mo (s, b) with
    | false =>
      have e : lqG (f + 1) (s, b) u g = ((u, g), (s, b)) := by rw [lqG, hm]; rfl
      have hm' : (!b && !List.isEmpty s) = false := hm
      rw [e, hm']
      exact .ret
    | true =>
      have hm' : (!b && !List.isEmpty s) = true := hm
      obtain ⟨hb, hne⟩ := mo_f hm
      rw [hm', sm_t h1]
      have l1 := anR_lt hne
      have l2 := anR_le (anR s)
      have rm : roomN (u.length + 1) 8 = true := roomN_t (by omega) (by omega)
      have rm2 : roomN (g.length + 1) 16 = true := roomN_t (by omega) (by omega)
      have hf : s.length < f + 1 := h.resolve_right (by rw [hb]; decide)
      simp only [cond_true, sm_t (show (anR s).length ≤ 1000000 by omega), rm, rm2]
      refine RunsF.cond (fun hp => ?_) (fun hp => ?_)
      · refine RunsF.cond (fun hg => ?_) (fun hg => ?_)
        · have e : lqG (f + 1) (s, b) u g = lqG f (sAN ((sAW (s, b)).1, true)) (u ++ [vAN ((sAW (s, b)).1, true)]) g := by
            rw [lqG, hm, show (vAW (s, b) == wUser) = true from hp, isE_len, hg]; rfl
          rw [e]
          exact .go (by
            have := agroup_loop nm h1_0 h3 h4 f (anR (anR s)) (awNB (anR s) true) (u ++ [awN (anR s)]) g (.inl (by omega)) (by omega) (by simp; omega) (by omega)
            rw [← eIs_snoc] at this
            exact this)
        · have e : lqG (f + 1) (s, b) u g = lqG f (sAN (sAW (s, b))) (u ++ [vAN (sAW (s, b))]) g := by
            rw [lqG, hm, show (vAW (s, b) == wUser) = true from hp, isE_len, hg]; rfl
          rw [e]
          exact .go (by
            have := agroup_loop nm h1_0 h3 h4 f (anR (anR s)) (awNB (anR s) (awB s b)) (u ++ [awN (anR s)]) g (.inl (by omega)) (by omega) (by simp; omega) (by omega)
            rw [← eIs_snoc] at this
            exact this)
      · refine RunsF.cond (fun hd => ?_) (fun hd => ?_)
        · have e : lqG (f + 1) (s, b) u g = lqG f (sAW (sAW (s, b))) u (g ++ [vAW (sAW (s, b))]) := by
            rw [lqG, hm, show (vAW (s, b) == wUser) = false from hp, show (vAW (s, b) == wGroup) = true from hd]; rfl
          rw [e]
          exact .go (by
            have := agroup_loop nm h1_0 h3 h4 f (anR (anR s)) (awB (anR s) (awB s b)) u (g ++ [anW (anR s)]) (.inl (by omega)) (by omega) (by omega) (by simp; omega)
            rw [← eSs_snoc] at this
            exact this)
        · have e : lqG (f + 1) (s, b) u g = lqG f ((sAW (s, b)).1, true) u g := by
            rw [lqG, hm, show (vAW (s, b) == wUser) = false from hp, show (vAW (s, b) == wGroup) = false from hd]; rfl
          rw [e]
          exact .go (agroup_loop nm h1_0 h3 h4 f (anR s) true u g (.inr rfl) (by omega) (by omega) (by omega))
theorem group_holds : Holds k_group := conRd_of (ks := [c_aw, c_an, k_amore]) (hold1 c_aw_holds (hold1 c_an_holds (hold1 amore_holds hold0))) fun s b g => by
  have g' := sm_of g
  refine Runs.by (agroup_e · _ _) ?_
  simp only [bm, g, cond_true]
  have l1 := anR_le s
  exact .go (agroup_loop (anW s) _ _ _ (fu (anR s, awB s b)) (anR s) (awB s b) [] [] (.inl (Nat.lt_succ_self _)) (by omega) (by show 0 + ((anR s).length + 1) ≤ _; omega) (by show 0 + ((anR s).length + 1) ≤ _; omega))

noncomputable abbrev cr : Cfg := cfg [c_aw, k_amore]
def ruR (r : List Ru × Rs) : List L := .lst 65 (eRs r.1) :: stR r.2.1 r.2.2
theorem arules_loop : ∀ (f : Nat) (s : W) (b : Bool) (a : List Ru), (s.length < f ∨ b = true) → s.length ≤ 1000000 → a.length + f ≤ 1000002 → Runs cr (arules_q2 (mk s) b (eRs a)) (ruR (lqR f (s, b) a))
  | 0, s, b, a, h, _, _ => by
    have hb : b = true := h.resolve_left (by omega)
    subst hb
    exact Runs.by (arules_p2 · _ _ _) .ret
  | f + 1, s, b, a, h, h1, h2 => by
    refine Runs.by (arules_p2 · _ _ _) ?_
    simp only [bm, eRs_len]
    cases hm : mo (s, b) with
    | false =>
      have e : lqR (f + 1) (s, b) a = (a, (s, b)) := by rw [lqR, hm]; rfl
      have hm' : (!b && !List.isEmpty s) = false := hm
      rw [e, hm']
      exact .ret
    | true =>
      have hm' : (!b && !List.isEmpty s) = true := hm
      obtain ⟨hb, hne⟩ := mo_f hm
      rw [hm', sm_t h1]
      have l1 := anR_lt hne
      have l2 := anR_le (anR s)
      have l3 := anR_le (anR (anR s))
      have l4 := anR_le (anR (anR (anR s)))
      have rm : roomN (a.length + 1) 56 = true := roomN_t (by omega) (by omega)
      have hf : s.length < f + 1 := h.resolve_right (by rw [hb]; decide)
      simp only [cond_true, sm_t (show (anR s).length ≤ 1000000 by omega), sm_t (show (anR (anR s)).length ≤ 1000000 by omega), sm_t (show (anR (anR (anR s))).length ≤ 1000000 by omega), rm]
      have go : ∀ (w3 : W) (bb : Bool), w3 = rp (anW (anR (anR s))) → bb = (awB s b || !okR (anW s)) →
          Runs cr (arules_q2 (mk (anR (anR (anR (anR s))))) (awB (anR (anR (anR s))) (awB (anR (anR s)) (awB (anR s) bb))) (eRs a ++ [[.bool (anW s == wAllow), .str (mk (anW (anR s))), .str (mk w3), .str (mk (anW (anR (anR (anR s)))))]])) (ruR (lqR (f + 1) (s, b) a)) := fun w3 bb e3 eb => by
        have e : lqR (f + 1) (s, b) a = lqR f (sAW (sAW (sAW ((sAW (s, b)).1, (sAW (s, b)).2 || !okR (vAW (s, b)))))) (a ++ [(vAW (s, b) == wAllow, vAW ((sAW (s, b)).1, (sAW (s, b)).2 || !okR (vAW (s, b))), rp (vAW (sAW ((sAW (s, b)).1, (sAW (s, b)).2 || !okR (vAW (s, b))))), vAW (sAW (sAW ((sAW (s, b)).1, (sAW (s, b)).2 || !okR (vAW (s, b))))))]) := by
          rw [lqR, hm]; rfl
        rw [e, e3, eb]
        have := arules_loop f (anR (anR (anR (anR s)))) (awB (anR (anR (anR s))) (awB (anR (anR s)) (awB (anR s) (awB s b || !okR (anW s))))) (a ++ [(anW s == wAllow, anW (anR s), rp (anW (anR (anR s))), anW (anR (anR (anR s))))]) (.inl (by omega)) (by omega) (by simp; omega)
        rw [← eRs_snoc] at this
        exact this
      have fin : ∀ bb, bb = (awB s b || !okR (anW s)) → RunsF cr (fun G => cond (anW (anR (anR s)) == [45])
          (G (arules_q2 (mk (anR (anR (anR (anR s))))) (awB (anR (anR (anR s))) (awB (anR (anR s)) (awB (anR s) bb))) (eRs a ++ [[.bool (anW s == [97, 108, 108, 111, 119]), .str (mk (anW (anR s))), .str (mk []), .str (mk (anW (anR (anR (anR s)))))]])))
          (G (arules_q2 (mk (anR (anR (anR (anR s))))) (awB (anR (anR (anR s))) (awB (anR (anR s)) (awB (anR s) bb))) (eRs a ++ [[.bool (anW s == [97, 108, 108, 111, 119]), .str (mk (anW (anR s))), .str (mk (anW (anR (anR s)))), .str (mk (anW (anR (anR (anR s)))))]])))) (ruR (lqR (f + 1) (s, b) a)) := fun bb eb =>
        RunsF.cond (fun h4 => .go (go _ _ (by unfold rp; rw [h4]; rfl) eb)) (fun h4 => .go (go _ _ (by unfold rp; rw [h4]; rfl) eb))
      refine RunsF.cond (fun hp => ?_) (fun hp => ?_)
      · have hp' : (anW s == wAllow) = false := by simpa using hp
        refine RunsF.cond (fun hd => ?_) (fun hd => ?_)
        · have hd' : (anW s == wDeny) = false := by simpa using hd
          exact fin _ (by unfold okR; rw [hp', hd']; simp)
        · have hd' : (anW s == wDeny) = true := by simpa using hd
          exact fin _ (by unfold okR; rw [hd']; simp)
      · have hp' : (anW s == wAllow) = true := by simpa using hp
        exact fin _ (by unfold okR; rw [hp']; simp)
theorem rules_holds : Holds k_rules := conRd_of (ks := [c_aw, k_amore]) (hold1 c_aw_holds (hold1 amore_holds hold0)) fun s b g => by
  have g := sm_of g
  exact Runs.by (arules_e · _ _) (.go (arules_loop (fu (s, b)) s b [] (.inl (Nat.lt_succ_self _)) g (by show 0 + (s.length + 1) ≤ _; omega)))
end Go.Ab
namespace Go.Ab
open Go.Proofs

def nmL : List W := [[99, 111, 109, 109, 105, 116], [98, 114, 97, 110, 99, 104], [100, 114, 111, 112], [102, 111, 114, 119, 97, 114, 100], [105, 110, 103, 101, 115, 116], [109, 101, 114, 103, 101], [103, 114, 111, 117, 112], [114, 117, 108, 101, 115], [115, 101, 97, 114, 99, 104], [115, 97, 118, 101], [102, 111, 114, 103, 101, 116], [110, 111, 116, 105, 102, 121], [100, 101, 108, 105, 118, 101, 114], [116, 105, 99, 107], [114, 101, 110, 101, 119], [115, 121, 110, 99], [99, 114, 97, 115, 104], [115, 116, 97, 114, 116], [115, 108, 111, 119], [112, 114, 117, 110, 101], [114, 101, 119, 114, 105, 116, 101], [114, 101, 112, 111]]
def idxF : List W → Int → W → Int
  | [], _, _ => 0
  | x :: l, i, w => cond (x == w) i (idxF l (i + 1) w)
theorem idxF_no : ∀ (l : List W) (i : Int) (w : W), w ∉ l → idxF l i w = 0
  | [], _, _, _ => rfl
  | x :: l, i, w, h => by
    rw [List.mem_cons, not_or] at h
    have : (x == w) = false := by simpa using fun e => h.1 e.symm
    rw [idxF, this, cond_false]
    exact idxF_no l _ w h.2
theorem mapHas_mem : ∀ (es : List (ByteArray × Int)) (w : W), mapHas es (mk w) = true → w ∈ es.map fun p => bl p.1
  | [], _, h => by cases h
  | p :: es, w, h => by
    rw [mapHas] at h
    cases hb : ((mk w).data.toList == p.1.data.toList)
    · rw [hb] at h
      exact List.mem_cons_of_mem _ (mapHas_mem es w h)
    · have : w = bl p.1 := by simpa using hb
      rw [this]
      exact List.mem_cons_self
theorem names_in (w : W) (h : w ∈ cmdsL.map fun p => bl p.1) : w ∈ nmL := by
  have : ((cmdsL.map fun p => bl p.1).all fun w => nmL.contains w) = true := by decide +kernel
  simpa using List.all_eq_true.1 this w h
theorem nm_all : (nmL.all fun w => decide (idxF nmL 1 w = ct w)) = true := by decide +kernel
theorem cmd_eq (w : W) : idxF nmL 1 w = ct w := by
  by_cases h : w ∈ nmL
  · exact of_decide_eq_true (List.all_eq_true.1 nm_all w h)
  · rw [idxF_no _ _ _ h]
    unfold ct
    cases hm : mapHas cmdsL (mk w)
    · rfl
    · exact absurd (names_in w (mapHas_mem _ _ hm)) h
theorem ct_all : (nmL.all fun w => decide (1 ≤ ct w ∧ ct w ≤ 22)) = true := by decide +kernel
theorem ct_range (w : W) (h : ct w ≠ 0) : 1 ≤ ct w ∧ ct w ≤ 22 := by
  by_cases hm : w ∈ nmL
  · exact of_decide_eq_true (List.all_eq_true.1 ct_all w hm)
  · exact absurd (by rw [← cmd_eq, idxF_no _ _ _ hm]) h
theorem command_loop (w : W) : ∀ (m i : Nat), i + m = 22 → Runs (cfg []) (command_q3 (mk w) (i : Nat) (eSs nmL)) [.int .i64 (idxF (nmL.drop i) ((i : Int) + 1) w)]
  | 0, i, h => by
    obtain rfl : i = 22 := by omega
    exact Runs.by (command_p3 · _ _ _) .ret
  | m + 1, i, h => by
    have ih := command_loop w m (i + 1) (by omega)
    have hl : nmL.length = 22 := rfl
    refine Runs.by (command_p3 · _ _ _) ?_
    rw [drop_at [] (show i < nmL.length by omega), idxF]
    have ha : atL (eSs nmL) (i : Int) = eS1 (nmL.getD i []) := atL_map _ nmL i [] (by omega)
    have hc : bl (cT 0 (eS1 (nmL.getD i []))) = nmL.getD i [] := rfl
    simp (disch := omega) only [eSs_len, hl, ev_lt_t, ev_le_t, Bool.and_self, cond_true, ha, hc, bm, w64]
    refine RunsF.cond (fun he => ?_) (fun he => ?_)
    · rw [he]; exact .ret
    · rw [he]
      exact .go ih
theorem command_holds : Holds k_command := con_run (xs := []) hold0 fun aa hp r h => by
  split at h
  case h_2 => cases h
  rename_i w
  obtain ⟨g, rfl⟩ := xo h
  obtain ⟨w, rfl⟩ := str_cases w
  refine Runs.by (command_e · _) ?_
  have := command_loop w 22 0 rfl
  rw [List.drop_zero] at this
  rw [bm, ← cmd_eq]
  exact .go this

set_option maxHeartbeats 4000000 in
theorem aevent_runs (k : Int) (s : W) (b : Bool) (g : sm s.length = true) (h1 : 1 ≤ k) (h2 : k ≤ 22) :
    Runs (cfg [c_aw, c_an, c_at, k_writes, k_group, k_rules]) (.enter 46 [.lf (.int .i64 k), .lf (.ptr 0 0)] [.box [.str, .bool] [.str (mk s), .bool b]]) (encE (evG aOps k (s, b)).1 ++ stR (evG aOps k (s, b)).2.1 (evG aOps k (s, b)).2.2) := by
  have hs := sm_of g
  have sR : ∀ t : W, t.length ≤ 1000000 → (anR t).length ≤ 1000000 := fun t h => Nat.le_trans (anR_le t) h
  have sT : ∀ t : W, t.length ≤ 1000000 → (atS t).length ≤ 1000000 := fun t h => Nat.le_trans (atS_le t) h
  have e1 := sR s hs
  have e2 := sR _ e1
  have e3 := sR _ e2
  have e4 := sR _ e3
  have t2 := sT _ e1
  have t3 := sR _ t2
  have t4 := sR _ t3
  have t5 := sT _ e3
  have t6 := sT _ t5
  refine Runs.by (aevent_e · _ _ _) ?_
  simp only [bm, g, sm_t e1, sm_t e2, sm_t e3, sm_t t2, sm_t t3, sm_t t4, sm_t t5, cond_true]
  have hk : k = 1 ∨ k = 2 ∨ k = 3 ∨ k = 4 ∨ k = 5 ∨ k = 6 ∨ k = 7 ∨ k = 8 ∨ k = 9 ∨ k = 10 ∨ k = 11 ∨ k = 12 ∨ k = 13 ∨ k = 14 ∨ k = 15 ∨ k = 16 ∨ k = 17 ∨ k = 18 ∨ k = 19 ∨ k = 20 ∨ k = 21 ∨ k = 22 := by omega
  rcases hk with rfl | rfl | rfl | rfl | rfl | rfl | rfl | rfl | rfl | rfl | rfl | rfl | rfl | rfl | rfl | rfl | rfl | rfl | rfl | rfl | rfl | rfl <;> simp only [Int.reduceBEq, cond_true, cond_false] <;> exact .ret
theorem aevent_holds : Holds k_aevent := con_run (xs := [c_aw, c_an, c_at, k_writes, k_group, k_rules]) (hold1 c_aw_holds (hold1 c_an_holds (hold1 c_at_holds (hold1 writes_holds (hold1 group_holds (hold1 rules_holds hold0)))))) fun aa hp r h => by
  split at h
  case h_2 => cases h
  rename_i k s b
  obtain ⟨g, rfl⟩ := xo h
  rw [Bool.and_eq_true, Bool.and_eq_true] at g
  obtain ⟨s, rfl⟩ := str_cases s
  rw [size_mk] at g
  exact aevent_runs k s b g.1 (leI_t g.2.1) (leI_t g.2.2)

theorem upB_at : ∀ (s : W) (n : Nat), n < (upB s).length → (s.getD n 0).toNat ≠ 32
  | [], n, h => by cases h
  | c :: s, 0, h => by
    unfold upB at h
    rw [List.takeWhile_cons] at h
    intro e
    have e' : c.toNat = 32 := e
    rw [e'] at h
    simp at h
  | c :: s, n + 1, h => by
    unfold upB at h
    rw [List.takeWhile_cons] at h
    split at h
    · exact upB_at s n (Nat.lt_of_succ_lt_succ h)
    · cases h
theorem upB_end : ∀ (s : W), (upB s).length < s.length → (s.getD (upB s).length 0).toNat = 32
  | [], h => by cases h
  | c :: s, h => by
    unfold upB at h ⊢
    rw [List.takeWhile_cons] at h ⊢
    split at h
    · rename_i hc
      rw [if_pos hc]
      exact upB_end s (Nat.lt_of_succ_lt_succ h)
    · rename_i hc
      rw [if_neg hc]
      simpa using hc
noncomputable abbrev ca : Cfg := cfg [k_command, k_aevent]
theorem fin3_runs {C : Cfg} (r : Ev × Rs) : RunsF C (fun _ => cond r.2.2 (some (encE (ev0 0) ++ [.int .i64 3])) (cond (!bl (mk r.2.1) == bl (mk [])) (some (encE (ev0 0) ++ [.int .i64 3])) (some (encE r.1 ++ [.int .i64 0])))) (encE (fin3 r).1 ++ [.int .i64 (fin3 r).2]) := by
  obtain ⟨e, s, b⟩ := r
  unfold fin3
  cases b
  · cases s with
    | nil => exact .ret
    | cons c t => exact .ret
  · exact .ret
theorem aread_loop (s : W) (g : sm s.length = true) (h0_0 : Int) (h0_1 h0_2 h0_3 : ByteArray) (h0_4 h0_5 h0_6 h0_7 : Int) (h0_8 h0_9 : ByteArray) (h1 h2 h3 h4 : List (List L)) : ∀ (m n : Nat), n + m = (upB s).length →
    Runs ca (aread_q2 (mk s) (n : Nat) h0_0 h0_1 h0_2 h0_3 h0_4 h0_5 h0_6 h0_7 h0_8 h0_9 h1 h2 h3 h4) (encE (evL aOps s).1 ++ [.int .i64 (evL aOps s).2])
  | m + 1, n, h => by
    have hs := sm_of g
    have hu := upB_le s
    have hc := upB_at s n (by omega)
    have ih := aread_loop s g h0_0 h0_1 h0_2 h0_3 h0_4 h0_5 h0_6 h0_7 h0_8 h0_9 h1 h2 h3 h4 m (n + 1) (by omega)
    refine Runs.by (aread_p2 · _ _ _ _ _ _ _ _ _ _ _ _ _ _ _ _) ?_
    simp (disch := omega) only [size_mk, ev_lt_t, ev_le_t, Bool.and_self, cond_true, byI_mk, ev_ne_t, w64]
    exact .go ih
  | 0, n, h => by
    have hs := sm_of g
    have hu := upB_le s
    obtain rfl : n = (upB s).length := by omega
    refine Runs.by (aread_p2 · _ _ _ _ _ _ _ _ _ _ _ _ _ _ _ _) ?_
    have e1 : (mk s).extract 0 (upB s).length = mk (upB s) := by rw [ext_mk, List.drop_zero, upB_take]
    have e2 : (mk s).extract (upB s).length s.length = mk (s.drop (upB s).length) := ext_all s _
    have g1 : sm (upB s).length = true := sm_t (by omega)
    have g2 : sm (s.drop (upB s).length).length = true := sm_t (by rw [List.length_drop]; omega)
    have tail : RunsF ca (fun G => cond (ct (upB s) == 0) (some (encE (ev0 0) ++ [.int .i64 19])) (cond (leI 1 (ct (upB s)) && leI (ct (upB s)) 22)
        (cond (evG aOps (ct (upB s)) (s.drop (upB s).length, false)).2.2 (some (encE (ev0 0) ++ [.int .i64 3])) (cond (!bl (mk (evG aOps (ct (upB s)) (s.drop (upB s).length, false)).2.1) == bl (mk [])) (some (encE (ev0 0) ++ [.int .i64 3])) (some (encE (evG aOps (ct (upB s)) (s.drop (upB s).length, false)).1 ++ [.int .i64 0])))) none)) (encE (evL aOps s).1 ++ [.int .i64 (evL aOps s).2]) := by
      unfold evL
      cases hc : ct (upB s) == 0
      · have hne : ct (upB s) ≠ 0 := by simpa using hc
        obtain ⟨r1, r2⟩ := ct_range _ hne
        simp (disch := omega) only [ev_le_t, Bool.and_self, cond_true, cond_false]
        exact fin3_runs _
      · exact .ret
    rcases Nat.lt_or_ge (upB s).length s.length with hl | hl
    · have hc := upB_end s hl
      simp (disch := omega) only [size_mk, ev_lt_t, ev_le_t, Bool.and_self, cond_true, byI_mk, ev_ne_f, cond_false, Int.toNat_natCast, e1, e2, g1, g2, bm, Bool.true_and]
      exact tail
    · simp (disch := omega) only [size_mk, ev_lt_f, ev_le_t, Bool.and_self, cond_true, cond_false, Int.toNat_natCast, e1, e2, g1, g2, bm, Bool.true_and]
      exact tail
theorem read_holds : Holds k_read := con_run (xs := [k_command, k_aevent]) (hold1 command_holds (hold1 aevent_holds hold0)) fun aa hp r h => by
  unfold conEv at h
  split at h
  case h_2 => cases h
  rename_i s
  obtain ⟨g, rfl⟩ := xo h
  obtain ⟨s, rfl⟩ := str_cases s
  rw [size_mk] at g
  refine Runs.by (aread_e · _) ?_
  exact .go (aread_loop s g _ _ _ _ _ _ _ _ _ _ _ _ _ _ (upB s).length 0 (Nat.zero_add _))
end Go.Ab
namespace Go.Ab
open Go.Proofs

theorem neI (a b : Int) : (cI 0 (eI1 a) != cI 0 (eI1 b)) = !decide (a = b) := by
  show (!(a == b)) = _
  congr 1
theorem neS (a b : W) : (!bl (cT 0 (eS1 a)) == bl (cT 0 (eS1 b))) = !decide (a = b) := by
  show (!(a == b)) = _
  congr 1
  rw [Bool.eq_iff_iff, beq_iff_eq, decide_eq_true_eq]
theorem neR (a b : Ru) : (!(cO 0 (eR1 a) == cO 0 (eR1 b) && (bl (cT 1 (eR1 a)) == bl (cT 1 (eR1 b)) && (bl (cT 2 (eR1 a)) == bl (cT 2 (eR1 b)) && (bl (cT 3 (eR1 a)) == bl (cT 3 (eR1 b)) && true))))) = !decide (a = b) := by
  obtain ⟨a1, a2, a3, a4⟩ := a
  obtain ⟨b1, b2, b3, b4⟩ := b
  show (!(a1 == b1 && (a2 == b2 && (a3 == b3 && (a4 == b4 && true))))) = _
  congr 1
  rw [Bool.eq_iff_iff]
  simp [Prod.mk.injEq]
theorem neW (a b : Wr) : (!(bl (cT 0 (eW1 a)) == bl (cT 0 (eW1 b)) && (bl (cT 1 (eW1 a)) == bl (cT 1 (eW1 b)) && (cO 2 (eW1 a) == cO 2 (eW1 b) && true)))) = !decide (a = b) := by
  obtain ⟨a1, a2, a3⟩ := a
  obtain ⟨b1, b2, b3⟩ := b
  show (!(a1 == b1 && (a2 == b2 && (a3 == b3 && true)))) = _
  congr 1
  rw [Bool.eq_iff_iff]
  simp [Prod.mk.injEq]
theorem cons_d {α : Type} [DecidableEq α] {a b : α} {l l' : List α} : decide (a :: l = b :: l') = (decide (a = b) && decide (l = l')) := by
  rw [Bool.eq_iff_iff]
  simp

theorem eqI_loop (xs ys : List Int) (hl : xs.length = ys.length) (hs : xs.length ≤ 1000000) : ∀ m i : Nat, i + m = xs.length → Runs (cfg []) (eqI_q4 (eIs xs) (eIs ys) (xs.length : Nat) (i : Nat)) [.bool (decide (xs.drop i = ys.drop i))]
  | 0, i, h => by
    refine Runs.by (eqI_p4 · _ _ _ _) ?_
    rw [drop_end (l := xs) (by omega), drop_end (l := ys) (by omega)]
    simp (disch := omega) only [ev_lt_f, cond_false]
    exact .ret' (by simp)
  | m + 1, i, h => by
    have ih := eqI_loop xs ys hl hs m (i + 1) (by omega)
    refine Runs.by (eqI_p4 · _ _ _ _) ?_
    rw [drop_at 0 (show i < xs.length by omega), drop_at 0 (show i < ys.length by omega), cons_d]
    have ha : atL (eIs xs) (i : Int) = eI1 (xs.getD i 0) := atL_map _ xs i 0 (by omega)
    have hb : atL (eIs ys) (i : Int) = eI1 (ys.getD i 0) := atL_map _ ys i 0 (by omega)
    simp (disch := omega) only [ha, hb, neI, eIs_len, ev_lt_t, ev_le_t, Bool.and_self, cond_true, w64]
    by_cases he : xs.getD i 0 = ys.getD i 0
    · rw [decide_eq_true he]
      exact .go ih
    · rw [decide_eq_false he]
      exact .ret
theorem eqI_holds : Holds k_eqI := con_run (xs := []) hold0 fun aa hp r h => by
  split at h
  case h_2 => cases h
  rename_i xs ys
  obtain ⟨g, rfl⟩ := xo h
  rw [Bool.and_eq_true, Bool.and_eq_true] at g
  obtain ⟨xs, _, _, _, rfl, h1, h2, h3⟩ := isLs_of g.1
  obtain ⟨ys, _, _, _, rfl, h1', h2', h3'⟩ := isLs_of g.2.1
  have g3 := sm_of g.2.2
  rw [eIs_len] at g3
  refine Runs.by (eqI_e · _ _) ?_
  rw [dIs_e, dIs_e, eIs_len, eIs_len]
  by_cases hl : xs.length = ys.length
  · have := eqI_loop xs ys hl (by omega) xs.length 0 (Nat.zero_add _)
    rw [List.drop_zero, List.drop_zero] at this
    rw [ev_ne_f (by omega)]
    exact .go this
  · rw [ev_ne_t (by omega), decide_eq_false (fun e => hl (by rw [e]))]
    exact .ret

theorem eqS_loop (xs ys : List W) (hl : xs.length = ys.length) (hs : xs.length ≤ 1000000) : ∀ m i : Nat, i + m = xs.length → Runs (cfg []) (eqS_q4 (eSs xs) (eSs ys) (xs.length : Nat) (i : Nat)) [.bool (decide (xs.drop i = ys.drop i))]
  | 0, i, h => by
    refine Runs.by (eqS_p4 · _ _ _ _) ?_
    rw [drop_end (l := xs) (by omega), drop_end (l := ys) (by omega)]
    simp (disch := omega) only [ev_lt_f, cond_false]
    exact .ret' (by simp)
  | m + 1, i, h => by
    have ih := eqS_loop xs ys hl hs m (i + 1) (by omega)
    refine Runs.by (eqS_p4 · _ _ _ _) ?_
    rw [drop_at [] (show i < xs.length by omega), drop_at [] (show i < ys.length by omega), cons_d]
    have ha : atL (eSs xs) (i : Int) = eS1 (xs.getD i []) := atL_map _ xs i [] (by omega)
    have hb : atL (eSs ys) (i : Int) = eS1 (ys.getD i []) := atL_map _ ys i [] (by omega)
    simp (disch := omega) only [ha, hb, neS, eSs_len, ev_lt_t, ev_le_t, Bool.and_self, cond_true, w64]
    by_cases he : xs.getD i [] = ys.getD i []
    · rw [decide_eq_true he]
      exact .go ih
    · rw [decide_eq_false he]
      exact .ret
theorem eqS_holds : Holds k_eqS := con_run (xs := []) hold0 fun aa hp r h => by
  split at h
  case h_2 => cases h
  rename_i xs ys
  obtain ⟨g, rfl⟩ := xo h
  rw [Bool.and_eq_true, Bool.and_eq_true] at g
  obtain ⟨_, xs, _, _, h0, rfl, h2, h3⟩ := isLs_of g.1
  obtain ⟨_, ys, _, _, h0', rfl, h2', h3'⟩ := isLs_of g.2.1
  have g3 := sm_of g.2.2
  rw [eSs_len] at g3
  refine Runs.by (eqS_e · _ _) ?_
  rw [dSs_e, dSs_e, eSs_len, eSs_len]
  by_cases hl : xs.length = ys.length
  · have := eqS_loop xs ys hl (by omega) xs.length 0 (Nat.zero_add _)
    rw [List.drop_zero, List.drop_zero] at this
    rw [ev_ne_f (by omega)]
    exact .go this
  · rw [ev_ne_t (by omega), decide_eq_false (fun e => hl (by rw [e]))]
    exact .ret

theorem eqR_loop (xs ys : List Ru) (hl : xs.length = ys.length) (hs : xs.length ≤ 1000000) : ∀ m i : Nat, i + m = xs.length → Runs (cfg []) (eqR_q4 (eRs xs) (eRs ys) (xs.length : Nat) (i : Nat)) [.bool (decide (xs.drop i = ys.drop i))]
  | 0, i, h => by
    refine Runs.by (eqR_p4 · _ _ _ _) ?_
    rw [drop_end (l := xs) (by omega), drop_end (l := ys) (by omega)]
    simp (disch := omega) only [ev_lt_f, cond_false]
    exact .ret' (by simp)
  | m + 1, i, h => by
    have ih := eqR_loop xs ys hl hs m (i + 1) (by omega)
    refine Runs.by (eqR_p4 · _ _ _ _) ?_
    rw [drop_at (false, [], [], []) (show i < xs.length by omega), drop_at (false, [], [], []) (show i < ys.length by omega), cons_d]
    have ha : atL (eRs xs) (i : Int) = eR1 (xs.getD i (false, [], [], [])) := atL_map _ xs i (false, [], [], []) (by omega)
    have hb : atL (eRs ys) (i : Int) = eR1 (ys.getD i (false, [], [], [])) := atL_map _ ys i (false, [], [], []) (by omega)
    simp (disch := omega) only [ha, hb, neR, eRs_len, ev_lt_t, ev_le_t, Bool.and_self, cond_true, w64]
    by_cases he : xs.getD i (false, [], [], []) = ys.getD i (false, [], [], [])
    · rw [decide_eq_true he]
      exact .go ih
    · rw [decide_eq_false he]
      exact .ret
theorem eqR_holds : Holds k_eqR := con_run (xs := []) hold0 fun aa hp r h => by
  split at h
  case h_2 => cases h
  rename_i xs ys
  obtain ⟨g, rfl⟩ := xo h
  rw [Bool.and_eq_true, Bool.and_eq_true] at g
  obtain ⟨_, _, xs, _, h0, h1, rfl, h3⟩ := isLs_of g.1
  obtain ⟨_, _, ys, _, h0', h1', rfl, h3'⟩ := isLs_of g.2.1
  have g3 := sm_of g.2.2
  rw [eRs_len] at g3
  refine Runs.by (eqR_e · _ _) ?_
  rw [dRs_e, dRs_e, eRs_len, eRs_len]
  by_cases hl : xs.length = ys.length
  · have := eqR_loop xs ys hl (by omega) xs.length 0 (Nat.zero_add _)
    rw [List.drop_zero, List.drop_zero] at this
    rw [ev_ne_f (by omega)]
    exact .go this
  · rw [ev_ne_t (by omega), decide_eq_false (fun e => hl (by rw [e]))]
    exact .ret

theorem eqW_loop (xs ys : List Wr) (hl : xs.length = ys.length) (hs : xs.length ≤ 1000000) : ∀ m i : Nat, i + m = xs.length → Runs (cfg []) (eqW_q4 (eWs xs) (eWs ys) (xs.length : Nat) (i : Nat)) [.bool (decide (xs.drop i = ys.drop i))]
  | 0, i, h => by
    refine Runs.by (eqW_p4 · _ _ _ _) ?_
    rw [drop_end (l := xs) (by omega), drop_end (l := ys) (by omega)]
    simp (disch := omega) only [ev_lt_f, cond_false]
    exact .ret' (by simp)
  | m + 1, i, h => by
    have ih := eqW_loop xs ys hl hs m (i + 1) (by omega)
    refine Runs.by (eqW_p4 · _ _ _ _) ?_
    rw [drop_at ([], [], false) (show i < xs.length by omega), drop_at ([], [], false) (show i < ys.length by omega), cons_d]
    have ha : atL (eWs xs) (i : Int) = eW1 (xs.getD i ([], [], false)) := atL_map _ xs i ([], [], false) (by omega)
    have hb : atL (eWs ys) (i : Int) = eW1 (ys.getD i ([], [], false)) := atL_map _ ys i ([], [], false) (by omega)
    simp (disch := omega) only [ha, hb, neW, eWs_len, ev_lt_t, ev_le_t, Bool.and_self, cond_true, w64]
    by_cases he : xs.getD i ([], [], false) = ys.getD i ([], [], false)
    · rw [decide_eq_true he]
      exact .go ih
    · rw [decide_eq_false he]
      exact .ret
theorem eqW_holds : Holds k_eqW := con_run (xs := []) hold0 fun aa hp r h => by
  split at h
  case h_2 => cases h
  rename_i xs ys
  obtain ⟨g, rfl⟩ := xo h
  rw [Bool.and_eq_true, Bool.and_eq_true] at g
  obtain ⟨_, _, _, xs, h0, h1, h2, rfl⟩ := isLs_of g.1
  obtain ⟨_, _, _, ys, h0', h1', h2', rfl⟩ := isLs_of g.2.1
  have g3 := sm_of g.2.2
  rw [eWs_len] at g3
  refine Runs.by (eqW_e · _ _) ?_
  rw [dWs_e, dWs_e, eWs_len, eWs_len]
  by_cases hl : xs.length = ys.length
  · have := eqW_loop xs ys hl (by omega) xs.length 0 (Nat.zero_add _)
    rw [List.drop_zero, List.drop_zero] at this
    rw [ev_ne_f (by omega)]
    exact .go this
  · rw [ev_ne_t (by omega), decide_eq_false (fun e => hl (by rw [e]))]
    exact .ret

theorem ev_dec (a b : Ev) : decide (a = b) = (a.kind == b.kind && (a.repo == b.repo && (a.name == b.name && (a.other == b.other && (a.who == b.who && (a.n == b.n && (a.m == b.m && (a.k == b.k && (a.text == b.text && (a.gname == b.gname && (decide (a.users = b.users) && (decide (a.groups = b.groups) && (decide (a.rules = b.rules) && decide (a.writes = b.writes)))))))))))))) := by
  rw [Bool.eq_iff_iff]
  obtain ⟨k, a1, a2, a3, a4, a5, a6, a7, a8, a9, us, gs, rs, ws⟩ := a
  obtain ⟨k', a1', a2', a3', a4', a5', a6', a7', a8', a9', us', gs', rs', ws'⟩ := b
  simp [Ev.mk.injEq]
theorem psame_holds : Holds k_psame := conEE_of (ks := [k_eqI, k_eqS, k_eqR, k_eqW]) (hold1 eqI_holds (hold1 eqS_holds (hold1 eqR_holds (hold1 eqW_holds hold0)))) fun a b g => by
  rw [ev_dec]
  obtain ⟨k, a1, a2, a3, a4, a5, a6, a7, a8, a9, us, gs, rs, ws⟩ := a
  obtain ⟨k', a1', a2', a3', a4', a5', a6', a7', a8', a9', us', gs', rs', ws'⟩ := b
  unfold smE at g
  simp only [Bool.and_eq_true] at g
  obtain ⟨⟨g1, g2⟩, g3, g4⟩ := g
  refine Runs.by (psame_e · _ _ _ _ _ _ _ _ _ _ _ _ _ _ _ _ _ _ _ _ _ _ _ _ _ _ _ _) ?_
  have i1 : isLs (eIs us) [] [] [] = true := isLs_e us [] [] []
  have i2 : isLs (eIs us') [] [] [] = true := isLs_e us' [] [] []
  have i3 : isLs [] (eSs gs) [] [] = true := isLs_e [] gs [] []
  have i4 : isLs [] (eSs gs') [] [] = true := isLs_e [] gs' [] []
  have i5 : isLs [] [] (eRs rs) [] = true := isLs_e [] [] rs []
  have i6 : isLs [] [] (eRs rs') [] = true := isLs_e [] [] rs' []
  have i7 : isLs [] [] [] (eWs ws) = true := isLs_e [] [] [] ws
  have i8 : isLs [] [] [] (eWs ws') = true := isLs_e [] [] [] ws'
  simp only [bl_mk, i1, i2, i3, i4, i5, i6, i7, i8, eIs_len, eSs_len, eRs_len, eWs_len, g1, g2, g3, g4, Bool.and_self, cond_true, dIs_e, dSs_e, dRs_e, dWs_e]
  generalize (k == k') = c1
  generalize (a1 == a1') = c2
  generalize (a2 == a2') = c3
  generalize (a3 == a3') = c4
  generalize (a4 == a4') = c5
  generalize (a5 == a5') = c6
  generalize (a6 == a6') = c7
  generalize (a7 == a7') = c8
  generalize (a8 == a8') = c9
  generalize (a9 == a9') = c10
  cases c1
  · exact .ret
  cases c2
  · exact .ret
  cases c3
  · exact .ret
  cases c4
  · exact .ret
  cases c5
  · exact .ret
  cases c6
  · exact .ret
  cases c7
  · exact .ret
  cases c8
  · exact .ret
  cases c9
  · exact .ret
  cases c10
  · exact .ret
  simp only [Bool.true_and, cond_true]
  cases decide (us = us')
  · exact .ret
  cases decide (gs = gs')
  · exact .ret
  cases decide (rs = rs')
  · exact .ret
  exact .ret

section
variable (k : Int) (a1 a2 a3 : ByteArray) (a4 a5 a6 a7 : Int) (a8 a9 : ByteArray) (k' : Int) (a1' a2' a3' : ByteArray) (a4' a5' a6' a7' : Int) (a8' a9' : ByteArray) (us us' : List Int) (gs gs' : List W) (rs rs' : List Ru) (ws ws' : List Wr)
theorem rsW_loop (hw : ws.length = ws'.length) (sw : ws.length ≤ 1000000) : ∀ m i : Nat, i + m = ws.length → Runs (cfg []) (rsame_q21 (i : Nat) k a1 a2 a3 a4 a5 a6 a7 a8 a9 (eIs us) (eSs gs) (eRs rs) (eWs ws) k' a1' a2' a3' a4' a5' a6' a7' a8' a9' (eIs us') (eSs gs') (eRs rs') (eWs ws')) [.bool (decide (ws.drop i = ws'.drop i))]
  | 0, i, h => by
    refine Runs.by (rsame_p21 · _ _ _ _ _ _ _ _ _ _ _ _ _ _ _ _ _ _ _ _ _ _ _ _ _ _ _ _ _) ?_
    rw [drop_end (l := ws) (by omega), drop_end (l := ws') (by omega), eWs_len]
    simp (disch := omega) only [ev_lt_f, cond_false]
    exact .ret' (by simp)
  | m + 1, i, h => by
    have ih := rsW_loop hw sw m (i + 1) (by omega)
    refine Runs.by (rsame_p21 · _ _ _ _ _ _ _ _ _ _ _ _ _ _ _ _ _ _ _ _ _ _ _ _ _ _ _ _ _) ?_
    rw [drop_at ([], [], false) (show i < ws.length by omega), drop_at ([], [], false) (show i < ws'.length by omega), cons_d]
    have ha : atL (eWs ws) (i : Int) = eW1 (ws.getD i ([], [], false)) := atL_map _ ws i ([], [], false) (by omega)
    have hb : atL (eWs ws') (i : Int) = eW1 (ws'.getD i ([], [], false)) := atL_map _ ws' i ([], [], false) (by omega)
    simp (disch := omega) only [ha, hb, neW, eWs_len, ev_lt_t, ev_le_t, Bool.and_self, cond_true, w64]
    by_cases he : ws.getD i ([], [], false) = ws'.getD i ([], [], false)
    · rw [decide_eq_true he]
      exact .go ih
    · rw [decide_eq_false he]
      exact .ret
theorem rsR_loop (hw : ws.length = ws'.length) (sw : ws.length ≤ 1000000) (hr : rs.length = rs'.length) (sr : rs.length ≤ 1000000) : ∀ m i : Nat, i + m = rs.length → Runs (cfg []) (rsame_q16 (i : Nat) k a1 a2 a3 a4 a5 a6 a7 a8 a9 (eIs us) (eSs gs) (eRs rs) (eWs ws) k' a1' a2' a3' a4' a5' a6' a7' a8' a9' (eIs us') (eSs gs') (eRs rs') (eWs ws')) [.bool (decide (rs.drop i = rs'.drop i) && (decide (ws = ws')))]
  | 0, i, h => by
    refine Runs.by (rsame_p16 · _ _ _ _ _ _ _ _ _ _ _ _ _ _ _ _ _ _ _ _ _ _ _ _ _ _ _ _ _) ?_
    rw [drop_end (l := rs) (by omega), drop_end (l := rs') (by omega), eRs_len]
    rw [decide_eq_true (rfl : ([] : List Ru) = []), Bool.true_and]
    simp (disch := omega) only [ev_lt_f, cond_false]
    have := rsW_loop k a1 a2 a3 a4 a5 a6 a7 a8 a9 k' a1' a2' a3' a4' a5' a6' a7' a8' a9' us us' gs gs' rs rs' ws ws' hw sw ws.length 0 (Nat.zero_add _)
    rw [List.drop_zero, List.drop_zero] at this
    exact .go this
  | m + 1, i, h => by
    have ih := rsR_loop hw sw hr sr m (i + 1) (by omega)
    refine Runs.by (rsame_p16 · _ _ _ _ _ _ _ _ _ _ _ _ _ _ _ _ _ _ _ _ _ _ _ _ _ _ _ _ _) ?_
    rw [drop_at (false, [], [], []) (show i < rs.length by omega), drop_at (false, [], [], []) (show i < rs'.length by omega), cons_d]
    have ha : atL (eRs rs) (i : Int) = eR1 (rs.getD i (false, [], [], [])) := atL_map _ rs i (false, [], [], []) (by omega)
    have hb : atL (eRs rs') (i : Int) = eR1 (rs'.getD i (false, [], [], [])) := atL_map _ rs' i (false, [], [], []) (by omega)
    simp (disch := omega) only [ha, hb, neR, eRs_len, ev_lt_t, ev_le_t, Bool.and_self, cond_true, w64]
    by_cases he : rs.getD i (false, [], [], []) = rs'.getD i (false, [], [], [])
    · rw [decide_eq_true he]
      exact .go ih
    · rw [decide_eq_false he]
      exact .ret
theorem rsS_loop (hw : ws.length = ws'.length) (sw : ws.length ≤ 1000000) (hr : rs.length = rs'.length) (sr : rs.length ≤ 1000000) (hg : gs.length = gs'.length) (sg : gs.length ≤ 1000000) : ∀ m i : Nat, i + m = gs.length → Runs (cfg []) (rsame_q11 (i : Nat) k a1 a2 a3 a4 a5 a6 a7 a8 a9 (eIs us) (eSs gs) (eRs rs) (eWs ws) k' a1' a2' a3' a4' a5' a6' a7' a8' a9' (eIs us') (eSs gs') (eRs rs') (eWs ws')) [.bool (decide (gs.drop i = gs'.drop i) && (decide (rs = rs') && (decide (ws = ws'))))]
  | 0, i, h => by
    refine Runs.by (rsame_p11 · _ _ _ _ _ _ _ _ _ _ _ _ _ _ _ _ _ _ _ _ _ _ _ _ _ _ _ _ _) ?_
    rw [drop_end (l := gs) (by omega), drop_end (l := gs') (by omega), eSs_len]
    rw [decide_eq_true (rfl : ([] : List W) = []), Bool.true_and]
    simp (disch := omega) only [ev_lt_f, cond_false]
    have := rsR_loop k a1 a2 a3 a4 a5 a6 a7 a8 a9 k' a1' a2' a3' a4' a5' a6' a7' a8' a9' us us' gs gs' rs rs' ws ws' hw sw hr sr rs.length 0 (Nat.zero_add _)
    rw [List.drop_zero, List.drop_zero] at this
    exact .go this
  | m + 1, i, h => by
    have ih := rsS_loop hw sw hr sr hg sg m (i + 1) (by omega)
    refine Runs.by (rsame_p11 · _ _ _ _ _ _ _ _ _ _ _ _ _ _ _ _ _ _ _ _ _ _ _ _ _ _ _ _ _) ?_
    rw [drop_at [] (show i < gs.length by omega), drop_at [] (show i < gs'.length by omega), cons_d]
    have ha : atL (eSs gs) (i : Int) = eS1 (gs.getD i []) := atL_map _ gs i [] (by omega)
    have hb : atL (eSs gs') (i : Int) = eS1 (gs'.getD i []) := atL_map _ gs' i [] (by omega)
    simp (disch := omega) only [ha, hb, neS, eSs_len, ev_lt_t, ev_le_t, Bool.and_self, cond_true, w64]
    by_cases he : gs.getD i [] = gs'.getD i []
    · rw [decide_eq_true he]
      exact .go ih
    · rw [decide_eq_false he]
      exact .ret
theorem rsI_loop (hw : ws.length = ws'.length) (sw : ws.length ≤ 1000000) (hr : rs.length = rs'.length) (sr : rs.length ≤ 1000000) (hg : gs.length = gs'.length) (sg : gs.length ≤ 1000000) (hu : us.length = us'.length) (su : us.length ≤ 1000000) : ∀ m i : Nat, i + m = us.length → Runs (cfg []) (rsame_q6 (i : Nat) k a1 a2 a3 a4 a5 a6 a7 a8 a9 (eIs us) (eSs gs) (eRs rs) (eWs ws) k' a1' a2' a3' a4' a5' a6' a7' a8' a9' (eIs us') (eSs gs') (eRs rs') (eWs ws')) [.bool (decide (us.drop i = us'.drop i) && (decide (gs = gs') && (decide (rs = rs') && (decide (ws = ws')))))]
  | 0, i, h => by
    refine Runs.by (rsame_p6 · _ _ _ _ _ _ _ _ _ _ _ _ _ _ _ _ _ _ _ _ _ _ _ _ _ _ _ _ _) ?_
    rw [drop_end (l := us) (by omega), drop_end (l := us') (by omega), eIs_len]
    rw [decide_eq_true (rfl : ([] : List Int) = []), Bool.true_and]
    simp (disch := omega) only [ev_lt_f, cond_false]
    have := rsS_loop k a1 a2 a3 a4 a5 a6 a7 a8 a9 k' a1' a2' a3' a4' a5' a6' a7' a8' a9' us us' gs gs' rs rs' ws ws' hw sw hr sr hg sg gs.length 0 (Nat.zero_add _)
    rw [List.drop_zero, List.drop_zero] at this
    exact .go this
  | m + 1, i, h => by
    have ih := rsI_loop hw sw hr sr hg sg hu su m (i + 1) (by omega)
    refine Runs.by (rsame_p6 · _ _ _ _ _ _ _ _ _ _ _ _ _ _ _ _ _ _ _ _ _ _ _ _ _ _ _ _ _) ?_
    rw [drop_at 0 (show i < us.length by omega), drop_at 0 (show i < us'.length by omega), cons_d]
    have ha : atL (eIs us) (i : Int) = eI1 (us.getD i 0) := atL_map _ us i 0 (by omega)
    have hb : atL (eIs us') (i : Int) = eI1 (us'.getD i 0) := atL_map _ us' i 0 (by omega)
    simp (disch := omega) only [ha, hb, neI, eIs_len, ev_lt_t, ev_le_t, Bool.and_self, cond_true, w64]
    by_cases he : us.getD i 0 = us'.getD i 0
    · rw [decide_eq_true he]
      exact .go ih
    · rw [decide_eq_false he]
      exact .ret
end
theorem len_ne {α : Type} [DecidableEq α] {l l' : List α} (h : ¬ l.length = l'.length) : decide (l = l') = false := decide_eq_false fun e => h (by rw [e])
theorem rsame_holds : Holds k_rsame := conEE_of (ks := []) hold0 fun a b g => by
  rw [ev_dec]
  obtain ⟨k, a1, a2, a3, a4, a5, a6, a7, a8, a9, us, gs, rs, ws⟩ := a
  obtain ⟨k', a1', a2', a3', a4', a5', a6', a7', a8', a9', us', gs', rs', ws'⟩ := b
  unfold smE at g
  simp only [Bool.and_eq_true] at g
  obtain ⟨⟨g1, g2⟩, g3, g4⟩ := g
  have g1 := sm_of g1
  have g2 := sm_of g2
  have g3 := sm_of g3
  have g4 := sm_of g4
  refine Runs.by (rsame_e · _ _ _ _ _ _ _ _ _ _ _ _ _ _ _ _ _ _ _ _ _ _ _ _ _ _ _ _) ?_
  simp only [bl_mk, eIs_len, eSs_len, eRs_len, eWs_len, bne]
  by_cases hu : us.length = us'.length
  · by_cases hg : gs.length = gs'.length
    · by_cases hr : rs.length = rs'.length
      · by_cases hw : ws.length = ws'.length
        · have lp := rsI_loop k (mk a1) (mk a2) (mk a3) a4 a5 a6 a7 (mk a8) (mk a9) k' (mk a1') (mk a2') (mk a3') a4' a5' a6' a7' (mk a8') (mk a9') us us' gs gs' rs rs' ws ws' hw (by omega) hr (by omega) hg (by omega) hu (by omega) us.length 0 (Nat.zero_add _)
          rw [List.drop_zero, List.drop_zero] at lp
          rw [hu, hg, hr, hw]
          simp only [beq_self_eq_true, Bool.not_true, cond_false]
          generalize (k == k') = c1
          generalize (a1 == a1') = c2
          generalize (a2 == a2') = c3
          generalize (a3 == a3') = c4
          generalize (a4 == a4') = c5
          generalize (a5 == a5') = c6
          generalize (a6 == a6') = c7
          generalize (a7 == a7') = c8
          generalize (a8 == a8') = c9
          generalize (a9 == a9') = c10
          cases c1
          · exact .ret
          cases c2
          · exact .ret
          cases c3
          · exact .ret
          cases c4
          · exact .ret
          cases c5
          · exact .ret
          cases c6
          · exact .ret
          cases c7
          · exact .ret
          cases c8
          · exact .ret
          cases c9
          · exact .ret
          cases c10
          · exact .ret
          simp only [Bool.true_and, Bool.not_true, cond_false]
          exact .go lp
        · rw [len_ne hw, show (((ws.length : Nat) : Int) == ((ws'.length : Nat) : Int)) = false from ev_eq_f (by omega)]
          simp only [Bool.not_false, cond_true, Bool.and_false]
          generalize (k == k') = c1
          generalize (a1 == a1') = c2
          generalize (a2 == a2') = c3
          generalize (a3 == a3') = c4
          generalize (a4 == a4') = c5
          generalize (a5 == a5') = c6
          generalize (a6 == a6') = c7
          generalize (a7 == a7') = c8
          generalize (a8 == a8') = c9
          generalize (a9 == a9') = c10
          cases c1
          · exact .ret
          cases c2
          · exact .ret
          cases c3
          · exact .ret
          cases c4
          · exact .ret
          cases c5
          · exact .ret
          cases c6
          · exact .ret
          cases c7
          · exact .ret
          cases c8
          · exact .ret
          cases c9
          · exact .ret
          cases c10
          · exact .ret
          simp only [Bool.not_true, cond_false]
          first | exact .ret | skip
          all_goals (refine RunsF.cond (fun _ => .ret) (fun _ => ?_))
          all_goals first | exact .ret | (refine RunsF.cond (fun _ => .ret) (fun _ => ?_); first | exact .ret | (refine RunsF.cond (fun _ => .ret) (fun _ => ?_); exact .ret))
      · rw [len_ne hr, show (((rs.length : Nat) : Int) == ((rs'.length : Nat) : Int)) = false from ev_eq_f (by omega)]
        simp only [Bool.not_false, cond_true, Bool.and_false, Bool.false_and]
        generalize (k == k') = c1
        generalize (a1 == a1') = c2
        generalize (a2 == a2') = c3
        generalize (a3 == a3') = c4
        generalize (a4 == a4') = c5
        generalize (a5 == a5') = c6
        generalize (a6 == a6') = c7
        generalize (a7 == a7') = c8
        generalize (a8 == a8') = c9
        generalize (a9 == a9') = c10
        cases c1
        · exact .ret
        cases c2
        · exact .ret
        cases c3
        · exact .ret
        cases c4
        · exact .ret
        cases c5
        · exact .ret
        cases c6
        · exact .ret
        cases c7
        · exact .ret
        cases c8
        · exact .ret
        cases c9
        · exact .ret
        cases c10
        · exact .ret
        simp only [Bool.not_true, cond_false]
        first | exact .ret | skip
        all_goals (refine RunsF.cond (fun _ => .ret) (fun _ => ?_))
        all_goals first | exact .ret | (refine RunsF.cond (fun _ => .ret) (fun _ => ?_); first | exact .ret | (refine RunsF.cond (fun _ => .ret) (fun _ => ?_); exact .ret))
    · rw [len_ne hg, show (((gs.length : Nat) : Int) == ((gs'.length : Nat) : Int)) = false from ev_eq_f (by omega)]
      simp only [Bool.not_false, cond_true, Bool.and_false, Bool.false_and]
      generalize (k == k') = c1
      generalize (a1 == a1') = c2
      generalize (a2 == a2') = c3
      generalize (a3 == a3') = c4
      generalize (a4 == a4') = c5
      generalize (a5 == a5') = c6
      generalize (a6 == a6') = c7
      generalize (a7 == a7') = c8
      generalize (a8 == a8') = c9
      generalize (a9 == a9') = c10
      cases c1
      · exact .ret
      cases c2
      · exact .ret
      cases c3
      · exact .ret
      cases c4
      · exact .ret
      cases c5
      · exact .ret
      cases c6
      · exact .ret
      cases c7
      · exact .ret
      cases c8
      · exact .ret
      cases c9
      · exact .ret
      cases c10
      · exact .ret
      simp only [Bool.not_true, cond_false]
      first | exact .ret | skip
      all_goals (refine RunsF.cond (fun _ => .ret) (fun _ => ?_))
      all_goals first | exact .ret | (refine RunsF.cond (fun _ => .ret) (fun _ => ?_); first | exact .ret | (refine RunsF.cond (fun _ => .ret) (fun _ => ?_); exact .ret))
  · rw [len_ne hu, show (((us.length : Nat) : Int) == ((us'.length : Nat) : Int)) = false from ev_eq_f (by omega)]
    simp only [Bool.not_false, cond_true, Bool.and_false, Bool.false_and]
    generalize (k == k') = c1
    generalize (a1 == a1') = c2
    generalize (a2 == a2') = c3
    generalize (a3 == a3') = c4
    generalize (a4 == a4') = c5
    generalize (a5 == a5') = c6
    generalize (a6 == a6') = c7
    generalize (a7 == a7') = c8
    generalize (a8 == a8') = c9
    generalize (a9 == a9') = c10
    cases c1
    · exact .ret
    cases c2
    · exact .ret
    cases c3
    · exact .ret
    cases c4
    · exact .ret
    cases c5
    · exact .ret
    cases c6
    · exact .ret
    cases c7
    · exact .ret
    cases c8
    · exact .ret
    cases c9
    · exact .ret
    cases c10
    · exact .ret
    simp only [Bool.not_true, cond_false]
    first | exact .ret | skip
    all_goals (refine RunsF.cond (fun _ => .ret) (fun _ => ?_))
    all_goals first | exact .ret | (refine RunsF.cond (fun _ => .ret) (fun _ => ?_); first | exact .ret | (refine RunsF.cond (fun _ => .ret) (fun _ => ?_); exact .ret))
end Go.Ab
