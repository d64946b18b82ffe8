/- The normal forms of functions of the layer, printed by a program of this work. -/
import Derived.Test.YtnalffdkchhcoaaGreatDoorPartSc2
import Derived.Test.YtnalffdkchhcoaaGreatDoorPartSc1
import Derived.Lib.AppendIntMem
namespace Go.Ab
open Go.Proofs
noncomputable def pline_q3 (h0_0 : Int) (h0_1 : ByteArray) (h0_2 : ByteArray) (h0_3 : ByteArray) (h0_4 : Int) (h0_5 : Int) (h0_6 : Int) (h0_7 : Int) (h0_8 : ByteArray) (h0_9 : ByteArray) (h0_10 : List (List L)) (h0_11 : List (List L)) (h0_12 : List (List L)) (h0_13 : List (List L)) (h2m : List (ByteArray × Int)) (h2l : List (ByteArray × Int)) (h2c : Option (ByteArray × Int)) (h3 : List (List L)) : Req := .point 16 [] (todoAt Tryz.prog 16 3) ⟨[an, (.lf (.ptr 0 0)), an, an, (.lf (.ptr 1 0)), an, an, an, an, an, an, an, an, (.lf (.ptr 2 0)), an, an, an, an, an, an, an, an, an, an, an, an, an, an, an, an, an, an, an, an, an, an, an, an, an, an, an, an, an, an, an, an, an, an, an, an, an, an, an, an, an, an, an, an, an, an, an, an, an, an, an, an, an, an, an, an, an, an, an, an, an, an, an, an, an, an, an, an, an, an, an, an, an, an, an, an, an, an, an, an, an, an, an, an, an, an, an, an, an, an, an, an, an, an, an, an, an, an, an, an, an, an, an, an, an, an, an, an, an, an, an, an, an, an, an, an, an, an, an, an, an, an, an, an, an, an, an, an, an, an, an, an, an, an, an, an, an, an, an, an, an, an, an, an, an, an, an, an, an, an, an, an, an, an, an, an, an, an, an, an, an, an, an, an, an, an, an, an, an, an, an, an, an, an, an, an, an, an, an, an, an, an, an, an, an, an, an, an, an, an, an, an, an], [(.box [(.int IntKind.i64), .str, .str, .str, (.int IntKind.i64), (.int IntKind.i64), (.int IntKind.i64), (.int IntKind.i64), .str, .str, (.sl 3), (.sl 9), (.sl 65), (.sl 51)] [(.int IntKind.i64 h0_0), (.str h0_1), (.str h0_2), (.str h0_3), (.int IntKind.i64 h0_4), (.int IntKind.i64 h0_5), (.int IntKind.i64 h0_6), (.int IntKind.i64 h0_7), (.str h0_8), (.str h0_9), (.lst 3 h0_10), (.lst 9 h0_11), (.lst 65 h0_12), (.lst 51 h0_13)]), (.box [(.sl 9)] [(.row 3)]), (.miter h2m h2l h2c), (.row 9 h3 true)]⟩
noncomputable def pline_q48 (h0_0 : Int) (h0_1 : ByteArray) (h0_2 : ByteArray) (h0_3 : ByteArray) (h0_4 : Int) (h0_5 : Int) (h0_6 : Int) (h0_7 : Int) (h0_8 : ByteArray) (h0_9 : ByteArray) (h0_10 : List (List L)) (h0_11 : List (List L)) (h0_12 : List (List L)) (h0_13 : List (List L)) (h2 : List (List L)) : Req := .point 16 [] (todoAt Tryz.prog 16 48) ⟨[an, (.lf (.ptr 0 0)), an, an, (.lf (.ptr 1 0)), an, an, an, an, an, an, an, an, an, an, an, an, an, an, an, an, an, an, an, an, an, an, an, an, an, an, an, an, an, an, an, an, an, an, an, an, an, an, an, an, an, an, an, an, an, an, an, an, an, an, an, an, an, an, an, an, an, an, an, an, an, an, an, an, an, an, an, an, an, an, an, an, an, an, an, an, an, an, an, an, an, an, an, an, an, an, an, an, an, an, an, an, an, an, an, an, an, an, an, an, an, an, an, an, an, an, an, an, an, an, an, an, an, an, an, an, an, an, an, an, an, an, an, an, an, an, an, an, an, an, an, an, an, an, an, an, an, an, an, an, an, an, an, an, an, an, an, an, an, an, an, an, an, an, an, an, an, an, an, an, an, an, an, an, an, an, an, an, an, an, an, an, an, an, an, an, an, an, an, an, an, an, an, an, an, an, an, an, an, an, an, an, an, an, an, an, an, an, an, an, an, an], [(.box [(.int IntKind.i64), .str, .str, .str, (.int IntKind.i64), (.int IntKind.i64), (.int IntKind.i64), (.int IntKind.i64), .str, .str, (.sl 3), (.sl 9), (.sl 65), (.sl 51)] [(.int IntKind.i64 h0_0), (.str h0_1), (.str h0_2), (.str h0_3), (.int IntKind.i64 h0_4), (.int IntKind.i64 h0_5), (.int IntKind.i64 h0_6), (.int IntKind.i64 h0_7), (.str h0_8), (.str h0_9), (.lst 3 h0_10), (.lst 9 h0_11), (.lst 65 h0_12), (.lst 51 h0_13)]), (.box [(.sl 9)] [(.row 2)]), (.row 9 h2 true)]⟩
theorem pline_e (G : Req → R) (e0_0 : Int) (e0_1 : ByteArray) (e0_2 : ByteArray) (e0_3 : ByteArray) (e0_4 : Int) (e0_5 : Int) (e0_6 : Int) (e0_7 : Int) (e0_8 : ByteArray) (e0_9_0 : ByteArray) (e0_9_1 : List (List L)) (e0_9_2 : List (List L)) (e0_10 : List (List L)) (e0_11 : List (List L)) : runB (cfg [k_commands, k_add, k_num, k_listed, k_pquote, k_Join, k_pevent, k_Cont, k_psame]) G (.enter 16 [(.agg [(.int IntKind.i64 (e0_0)), (.str (e0_1)), (.str (e0_2)), (.str (e0_3)), (.int IntKind.i64 (e0_4)), (.int IntKind.i64 (e0_5)), (.int IntKind.i64 (e0_6)), (.int IntKind.i64 (e0_7)), (.str (e0_8)), (.str (e0_9_0)), (.lst 3 e0_9_1), (.lst 9 e0_9_2), (.lst 65 e0_10), (.lst 51 e0_11)])] []) =
 (G (pline_q3 e0_0 e0_1 e0_2 e0_3 e0_4 e0_5 e0_6 e0_7 e0_8 e0_9_0 e0_9_1 e0_9_2 e0_10 e0_11 cmdsL cmdsL none [])) := by kernel_rfl
theorem pline_p3 (G : Req → R) (h0_0 : Int) (h0_1 : ByteArray) (h0_2 : ByteArray) (h0_3 : ByteArray) (h0_4 : Int) (h0_5 : Int) (h0_6 : Int) (h0_7 : Int) (h0_8 : ByteArray) (h0_9 : ByteArray) (h0_10 : List (List L)) (h0_11 : List (List L)) (h0_12 : List (List L)) (h0_13 : List (List L)) (h2m : List (ByteArray × Int)) (h2l : List (ByteArray × Int)) (h2c : Option (ByteArray × Int)) (h3 : List (List L)) : runB (cfg [k_commands, k_add, k_num, k_listed, k_pquote, k_Join, k_pevent, k_Cont, k_psame]) G (pline_q3 h0_0 h0_1 h0_2 h0_3 h0_4 h0_5 h0_6 h0_7 h0_8 h0_9 h0_10 h0_11 h0_12 h0_13 h2m h2l h2c h3) =
 (cond (Nat.beq (List.length h2l) 0)
 (cond (h0_0 == 1)
 (cond (isLs h0_10 h0_11 h0_12 h0_13 && (okI (Ev.mk h0_0 (bl h0_1) (bl h0_2) (bl h0_3) h0_4 h0_5 h0_6 h0_7 (bl h0_8) (bl h0_9) (dIs h0_10) (dSs h0_11) (dRs h0_12) (dWs h0_13)) && (sm (List.length (jn (lsw (Ev.mk h0_0 (bl h0_1) (bl h0_2) (bl h0_3) h0_4 h0_5 h0_6 h0_7 (bl h0_8) (bl h0_9) (dIs h0_10) (dSs h0_11) (dRs h0_12) (dWs h0_13))))) && sm (List.length h3))))
 (G (pline_q48 h0_0 h0_1 h0_2 h0_3 h0_4 h0_5 h0_6 h0_7 h0_8 h0_9 h0_10 h0_11 h0_12 h0_13 (h3 ++ eSs (lsw (Ev.mk h0_0 (bl h0_1) (bl h0_2) (bl h0_3) h0_4 h0_5 h0_6 h0_7 (bl h0_8) (bl h0_9) (dIs h0_10) (dSs h0_11) (dRs h0_12) (dWs h0_13))))))
 none)
 (cond (h0_0 == 7)
 (cond (isLs h0_10 h0_11 h0_12 h0_13 && (okI (Ev.mk h0_0 (bl h0_1) (bl h0_2) (bl h0_3) h0_4 h0_5 h0_6 h0_7 (bl h0_8) (bl h0_9) (dIs h0_10) (dSs h0_11) (dRs h0_12) (dWs h0_13)) && (sm (List.length (jn (lsw (Ev.mk h0_0 (bl h0_1) (bl h0_2) (bl h0_3) h0_4 h0_5 h0_6 h0_7 (bl h0_8) (bl h0_9) (dIs h0_10) (dSs h0_11) (dRs h0_12) (dWs h0_13))))) && sm (List.length h3))))
 (G (pline_q48 h0_0 h0_1 h0_2 h0_3 h0_4 h0_5 h0_6 h0_7 h0_8 h0_9 h0_10 h0_11 h0_12 h0_13 (h3 ++ eSs (lsw (Ev.mk h0_0 (bl h0_1) (bl h0_2) (bl h0_3) h0_4 h0_5 h0_6 h0_7 (bl h0_8) (bl h0_9) (dIs h0_10) (dSs h0_11) (dRs h0_12) (dWs h0_13))))))
 none)
 (cond (h0_0 == 8)
 (cond (isLs h0_10 h0_11 h0_12 h0_13 && (okI (Ev.mk h0_0 (bl h0_1) (bl h0_2) (bl h0_3) h0_4 h0_5 h0_6 h0_7 (bl h0_8) (bl h0_9) (dIs h0_10) (dSs h0_11) (dRs h0_12) (dWs h0_13)) && (sm (List.length (jn (lsw (Ev.mk h0_0 (bl h0_1) (bl h0_2) (bl h0_3) h0_4 h0_5 h0_6 h0_7 (bl h0_8) (bl h0_9) (dIs h0_10) (dSs h0_11) (dRs h0_12) (dWs h0_13))))) && sm (List.length h3))))
 (G (pline_q48 h0_0 h0_1 h0_2 h0_3 h0_4 h0_5 h0_6 h0_7 h0_8 h0_9 h0_10 h0_11 h0_12 h0_13 (h3 ++ eSs (lsw (Ev.mk h0_0 (bl h0_1) (bl h0_2) (bl h0_3) h0_4 h0_5 h0_6 h0_7 (bl h0_8) (bl h0_9) (dIs h0_10) (dSs h0_11) (dRs h0_12) (dWs h0_13))))))
 none)
 (cond (h0_0 == 9)
 (cond (i64B h0_4 && Nat.ble (List.length h3) 10000000)
 (dupN 1
 (cond (sm (List.length (bl h0_8)))
 (cond (sm 1 && Nat.ble (List.length (h3 ++ eSs (List.map it [h0_4]))) 100000000)
 (cond (i64B h0_5 && (i64B h0_6 && i64B h0_7) && Nat.ble (List.length (h3 ++ eSs (List.map it [h0_4]) ++ [[L.str (mk (qt (bl h0_8)))]])) 10000000)
 (G (pline_q48 h0_0 h0_1 h0_2 h0_3 h0_4 h0_5 h0_6 h0_7 h0_8 h0_9 h0_10 h0_11 h0_12 h0_13 (h3 ++ eSs (List.map it [h0_4]) ++ [[L.str (mk (qt (bl h0_8)))]] ++ eSs (List.map it [h0_5, h0_6, h0_7]))))
 none)
 none)
 none))
 none)
 (cond (h0_0 == 10)
 (cond (i64B h0_4 && Nat.ble (List.length h3) 10000000)
 (dupN 1
 (cond (sm (List.length (bl h0_8)))
 (cond (sm 1 && Nat.ble (List.length (h3 ++ eSs (List.map it [h0_4]))) 100000000)
 (G (pline_q48 h0_0 h0_1 h0_2 h0_3 h0_4 h0_5 h0_6 h0_7 h0_8 h0_9 h0_10 h0_11 h0_12 h0_13 (h3 ++ eSs (List.map it [h0_4]) ++ [[L.str (mk (qt (bl h0_8)))]])))
 none)
 none))
 none)
 (cond (h0_0 == 13)
 (cond (i64B h0_4 && (i64B h0_5 && i64B h0_7) && Nat.ble (List.length h3) 10000000)
 (G (pline_q48 h0_0 h0_1 h0_2 h0_3 h0_4 h0_5 h0_6 h0_7 h0_8 h0_9 h0_10 h0_11 h0_12 h0_13 (h3 ++ eSs (List.map it [h0_4, h0_5, h0_7]))))
 none)
 (cond (h0_0 == 21)
 (cond (i64B h0_4 && Nat.ble (List.length h3) 10000000)
 (both
 (both
 (both
 (dupN 1
 (cond (sm (List.length (bl h0_8)))
 (cond (sm (List.length (bl h0_3)))
 (cond (sm 4 && Nat.ble (List.length (h3 ++ eSs (List.map it [h0_4]))) 100000000)
 (G (pline_q48 h0_0 h0_1 h0_2 h0_3 h0_4 h0_5 h0_6 h0_7 h0_8 h0_9 h0_10 h0_11 h0_12 h0_13 (h3 ++ eSs (List.map it [h0_4]) ++ [[L.str h0_1], [L.str h0_2], [L.str (mk (qt (bl h0_8)))], [L.str (mk (qt (bl h0_3)))]])))
 none)
 none)
 none))
 (both
 (cond (sm (List.length (bl h0_8)))
 (dupN 1
 (cond (sm (List.length (bl h0_3)))
 (cond (sm 4 && Nat.ble (List.length (h3 ++ eSs (List.map it [h0_4]))) 100000000)
 (G (pline_q48 h0_0 h0_1 h0_2 h0_3 h0_4 h0_5 h0_6 h0_7 h0_8 h0_9 h0_10 h0_11 h0_12 h0_13 (h3 ++ eSs (List.map it [h0_4]) ++ [[L.str h0_1], [L.str h0_2], [L.str (mk (qt (bl h0_8)))], [L.str (mk (qt (bl h0_3)))]])))
 none)
 none))
 none)
 (both
 (cond (sm (List.length (bl h0_8)))
 (cond (sm (List.length (bl h0_3)))
 (cond (sm 4 && Nat.ble (List.length (h3 ++ eSs (List.map it [h0_4]))) 100000000)
 (G (pline_q48 h0_0 h0_1 h0_2 h0_3 h0_4 h0_5 h0_6 h0_7 h0_8 h0_9 h0_10 h0_11 h0_12 h0_13 (h3 ++ eSs (List.map it [h0_4]) ++ [[L.str h0_1], [L.str h0_2], [L.str (mk (qt (bl h0_8)))], [L.str (mk (qt (bl h0_3)))]])))
 none)
 none)
 none)
 (cond (sm (List.length (bl h0_8)))
 (dupN 1
 (cond (sm (List.length (bl h0_3)))
 (cond (sm 4 && Nat.ble (List.length (h3 ++ eSs (List.map it [h0_4]))) 100000000)
 (G (pline_q48 h0_0 h0_1 h0_2 h0_3 h0_4 h0_5 h0_6 h0_7 h0_8 h0_9 h0_10 h0_11 h0_12 h0_13 (h3 ++ eSs (List.map it [h0_4]) ++ [[L.str h0_1], [L.str h0_2], [L.str (mk (qt (bl h0_8)))], [L.str (mk (qt (bl h0_3)))]])))
 none)
 none))
 none))))
 (both
 (both
 (dupN 1
 (cond (sm (List.length (bl h0_8)))
 (cond (sm (List.length (bl h0_3)))
 (cond (sm 4 && Nat.ble (List.length (h3 ++ eSs (List.map it [h0_4]))) 100000000)
 (G (pline_q48 h0_0 h0_1 h0_2 h0_3 h0_4 h0_5 h0_6 h0_7 h0_8 h0_9 h0_10 h0_11 h0_12 h0_13 (h3 ++ eSs (List.map it [h0_4]) ++ [[L.str h0_1], [L.str h0_2], [L.str (mk (qt (bl h0_8)))], [L.str (mk (qt (bl h0_3)))]])))
 none)
 none)
 none))
 (both
 (cond (sm (List.length (bl h0_8)))
 (dupN 1
 (cond (sm (List.length (bl h0_3)))
 (cond (sm 4 && Nat.ble (List.length (h3 ++ eSs (List.map it [h0_4]))) 100000000)
 (G (pline_q48 h0_0 h0_1 h0_2 h0_3 h0_4 h0_5 h0_6 h0_7 h0_8 h0_9 h0_10 h0_11 h0_12 h0_13 (h3 ++ eSs (List.map it [h0_4]) ++ [[L.str h0_1], [L.str h0_2], [L.str (mk (qt (bl h0_8)))], [L.str (mk (qt (bl h0_3)))]])))
 none)
 none))
 none)
 (both
 (cond (sm (List.length (bl h0_8)))
 (cond (sm (List.length (bl h0_3)))
 (cond (sm 4 && Nat.ble (List.length (h3 ++ eSs (List.map it [h0_4]))) 100000000)
 (G (pline_q48 h0_0 h0_1 h0_2 h0_3 h0_4 h0_5 h0_6 h0_7 h0_8 h0_9 h0_10 h0_11 h0_12 h0_13 (h3 ++ eSs (List.map it [h0_4]) ++ [[L.str h0_1], [L.str h0_2], [L.str (mk (qt (bl h0_8)))], [L.str (mk (qt (bl h0_3)))]])))
 none)
 none)
 none)
 (cond (sm (List.length (bl h0_8)))
 (dupN 1
 (cond (sm (List.length (bl h0_3)))
 (cond (sm 4 && Nat.ble (List.length (h3 ++ eSs (List.map it [h0_4]))) 100000000)
 (G (pline_q48 h0_0 h0_1 h0_2 h0_3 h0_4 h0_5 h0_6 h0_7 h0_8 h0_9 h0_10 h0_11 h0_12 h0_13 (h3 ++ eSs (List.map it [h0_4]) ++ [[L.str h0_1], [L.str h0_2], [L.str (mk (qt (bl h0_8)))], [L.str (mk (qt (bl h0_3)))]])))
 none)
 none))
 none))))
 (both
 (cond (sm (List.length (bl h0_8)))
 (both
 (dupN 1
 (cond (sm (List.length (bl h0_3)))
 (cond (sm 4 && Nat.ble (List.length (h3 ++ eSs (List.map it [h0_4]))) 100000000)
 (G (pline_q48 h0_0 h0_1 h0_2 h0_3 h0_4 h0_5 h0_6 h0_7 h0_8 h0_9 h0_10 h0_11 h0_12 h0_13 (h3 ++ eSs (List.map it [h0_4]) ++ [[L.str h0_1], [L.str h0_2], [L.str (mk (qt (bl h0_8)))], [L.str (mk (qt (bl h0_3)))]])))
 none)
 none))
 (both
 (dupN 1
 (cond (sm (List.length (bl h0_3)))
 (cond (sm 4 && Nat.ble (List.length (h3 ++ eSs (List.map it [h0_4]))) 100000000)
 (G (pline_q48 h0_0 h0_1 h0_2 h0_3 h0_4 h0_5 h0_6 h0_7 h0_8 h0_9 h0_10 h0_11 h0_12 h0_13 (h3 ++ eSs (List.map it [h0_4]) ++ [[L.str h0_1], [L.str h0_2], [L.str (mk (qt (bl h0_8)))], [L.str (mk (qt (bl h0_3)))]])))
 none)
 none))
 (cond (sm (List.length (bl h0_3)))
 (cond (sm 4 && Nat.ble (List.length (h3 ++ eSs (List.map it [h0_4]))) 100000000)
 (G (pline_q48 h0_0 h0_1 h0_2 h0_3 h0_4 h0_5 h0_6 h0_7 h0_8 h0_9 h0_10 h0_11 h0_12 h0_13 (h3 ++ eSs (List.map it [h0_4]) ++ [[L.str h0_1], [L.str h0_2], [L.str (mk (qt (bl h0_8)))], [L.str (mk (qt (bl h0_3)))]])))
 none)
 none)))
 none)
 (both
 (both
 (cond (sm (List.length (bl h0_8)))
 (cond (sm (List.length (bl h0_3)))
 (cond (sm 4 && Nat.ble (List.length (h3 ++ eSs (List.map it [h0_4]))) 100000000)
 (G (pline_q48 h0_0 h0_1 h0_2 h0_3 h0_4 h0_5 h0_6 h0_7 h0_8 h0_9 h0_10 h0_11 h0_12 h0_13 (h3 ++ eSs (List.map it [h0_4]) ++ [[L.str h0_1], [L.str h0_2], [L.str (mk (qt (bl h0_8)))], [L.str (mk (qt (bl h0_3)))]])))
 none)
 none)
 none)
 (cond (sm (List.length (bl h0_8)))
 (dupN 1
 (cond (sm (List.length (bl h0_3)))
 (cond (sm 4 && Nat.ble (List.length (h3 ++ eSs (List.map it [h0_4]))) 100000000)
 (G (pline_q48 h0_0 h0_1 h0_2 h0_3 h0_4 h0_5 h0_6 h0_7 h0_8 h0_9 h0_10 h0_11 h0_12 h0_13 (h3 ++ eSs (List.map it [h0_4]) ++ [[L.str h0_1], [L.str h0_2], [L.str (mk (qt (bl h0_8)))], [L.str (mk (qt (bl h0_3)))]])))
 none)
 none))
 none))
 (both
 (both
 (cond (sm (List.length (bl h0_8)))
 (cond (sm (List.length (bl h0_3)))
 (cond (sm 4 && Nat.ble (List.length (h3 ++ eSs (List.map it [h0_4]))) 100000000)
 (G (pline_q48 h0_0 h0_1 h0_2 h0_3 h0_4 h0_5 h0_6 h0_7 h0_8 h0_9 h0_10 h0_11 h0_12 h0_13 (h3 ++ eSs (List.map it [h0_4]) ++ [[L.str h0_1], [L.str h0_2], [L.str (mk (qt (bl h0_8)))], [L.str (mk (qt (bl h0_3)))]])))
 none)
 none)
 none)
 (cond (sm (List.length (bl h0_8)))
 (dupN 1
 (cond (sm (List.length (bl h0_3)))
 (cond (sm 4 && Nat.ble (List.length (h3 ++ eSs (List.map it [h0_4]))) 100000000)
 (G (pline_q48 h0_0 h0_1 h0_2 h0_3 h0_4 h0_5 h0_6 h0_7 h0_8 h0_9 h0_10 h0_11 h0_12 h0_13 (h3 ++ eSs (List.map it [h0_4]) ++ [[L.str h0_1], [L.str h0_2], [L.str (mk (qt (bl h0_8)))], [L.str (mk (qt (bl h0_3)))]])))
 none)
 none))
 none))
 (cond (sm (List.length (bl h0_8)))
 (both
 (dupN 1
 (cond (sm (List.length (bl h0_3)))
 (cond (sm 4 && Nat.ble (List.length (h3 ++ eSs (List.map it [h0_4]))) 100000000)
 (G (pline_q48 h0_0 h0_1 h0_2 h0_3 h0_4 h0_5 h0_6 h0_7 h0_8 h0_9 h0_10 h0_11 h0_12 h0_13 (h3 ++ eSs (List.map it [h0_4]) ++ [[L.str h0_1], [L.str h0_2], [L.str (mk (qt (bl h0_8)))], [L.str (mk (qt (bl h0_3)))]])))
 none)
 none))
 (both
 (dupN 1
 (cond (sm (List.length (bl h0_3)))
 (cond (sm 4 && Nat.ble (List.length (h3 ++ eSs (List.map it [h0_4]))) 100000000)
 (G (pline_q48 h0_0 h0_1 h0_2 h0_3 h0_4 h0_5 h0_6 h0_7 h0_8 h0_9 h0_10 h0_11 h0_12 h0_13 (h3 ++ eSs (List.map it [h0_4]) ++ [[L.str h0_1], [L.str h0_2], [L.str (mk (qt (bl h0_8)))], [L.str (mk (qt (bl h0_3)))]])))
 none)
 none))
 (cond (sm (List.length (bl h0_3)))
 (cond (sm 4 && Nat.ble (List.length (h3 ++ eSs (List.map it [h0_4]))) 100000000)
 (G (pline_q48 h0_0 h0_1 h0_2 h0_3 h0_4 h0_5 h0_6 h0_7 h0_8 h0_9 h0_10 h0_11 h0_12 h0_13 (h3 ++ eSs (List.map it [h0_4]) ++ [[L.str h0_1], [L.str h0_2], [L.str (mk (qt (bl h0_8)))], [L.str (mk (qt (bl h0_3)))]])))
 none)
 none)))
 none))))))
 (both
 (both
 (both
 (dupN 1
 (cond (sm (List.length (bl h0_8)))
 (cond (sm (List.length (bl h0_3)))
 (cond (sm 4 && Nat.ble (List.length (h3 ++ eSs (List.map it [h0_4]))) 100000000)
 (G (pline_q48 h0_0 h0_1 h0_2 h0_3 h0_4 h0_5 h0_6 h0_7 h0_8 h0_9 h0_10 h0_11 h0_12 h0_13 (h3 ++ eSs (List.map it [h0_4]) ++ [[L.str h0_1], [L.str h0_2], [L.str (mk (qt (bl h0_8)))], [L.str (mk (qt (bl h0_3)))]])))
 none)
 none)
 none))
 (both
 (cond (sm (List.length (bl h0_8)))
 (dupN 1
 (cond (sm (List.length (bl h0_3)))
 (cond (sm 4 && Nat.ble (List.length (h3 ++ eSs (List.map it [h0_4]))) 100000000)
 (G (pline_q48 h0_0 h0_1 h0_2 h0_3 h0_4 h0_5 h0_6 h0_7 h0_8 h0_9 h0_10 h0_11 h0_12 h0_13 (h3 ++ eSs (List.map it [h0_4]) ++ [[L.str h0_1], [L.str h0_2], [L.str (mk (qt (bl h0_8)))], [L.str (mk (qt (bl h0_3)))]])))
 none)
 none))
 none)
 (both
 (cond (sm (List.length (bl h0_8)))
 (cond (sm (List.length (bl h0_3)))
 (cond (sm 4 && Nat.ble (List.length (h3 ++ eSs (List.map it [h0_4]))) 100000000)
 (G (pline_q48 h0_0 h0_1 h0_2 h0_3 h0_4 h0_5 h0_6 h0_7 h0_8 h0_9 h0_10 h0_11 h0_12 h0_13 (h3 ++ eSs (List.map it [h0_4]) ++ [[L.str h0_1], [L.str h0_2], [L.str (mk (qt (bl h0_8)))], [L.str (mk (qt (bl h0_3)))]])))
 none)
 none)
 none)
 (cond (sm (List.length (bl h0_8)))
 (dupN 1
 (cond (sm (List.length (bl h0_3)))
 (cond (sm 4 && Nat.ble (List.length (h3 ++ eSs (List.map it [h0_4]))) 100000000)
 (G (pline_q48 h0_0 h0_1 h0_2 h0_3 h0_4 h0_5 h0_6 h0_7 h0_8 h0_9 h0_10 h0_11 h0_12 h0_13 (h3 ++ eSs (List.map it [h0_4]) ++ [[L.str h0_1], [L.str h0_2], [L.str (mk (qt (bl h0_8)))], [L.str (mk (qt (bl h0_3)))]])))
 none)
 none))
 none))))
 (both
 (both
 (dupN 1
 (cond (sm (List.length (bl h0_8)))
 (cond (sm (List.length (bl h0_3)))
 (cond (sm 4 && Nat.ble (List.length (h3 ++ eSs (List.map it [h0_4]))) 100000000)
 (G (pline_q48 h0_0 h0_1 h0_2 h0_3 h0_4 h0_5 h0_6 h0_7 h0_8 h0_9 h0_10 h0_11 h0_12 h0_13 (h3 ++ eSs (List.map it [h0_4]) ++ [[L.str h0_1], [L.str h0_2], [L.str (mk (qt (bl h0_8)))], [L.str (mk (qt (bl h0_3)))]])))
 none)
 none)
 none))
 (both
 (cond (sm (List.length (bl h0_8)))
 (dupN 1
 (cond (sm (List.length (bl h0_3)))
 (cond (sm 4 && Nat.ble (List.length (h3 ++ eSs (List.map it [h0_4]))) 100000000)
 (G (pline_q48 h0_0 h0_1 h0_2 h0_3 h0_4 h0_5 h0_6 h0_7 h0_8 h0_9 h0_10 h0_11 h0_12 h0_13 (h3 ++ eSs (List.map it [h0_4]) ++ [[L.str h0_1], [L.str h0_2], [L.str (mk (qt (bl h0_8)))], [L.str (mk (qt (bl h0_3)))]])))
 none)
 none))
 none)
 (both
 (cond (sm (List.length (bl h0_8)))
 (cond (sm (List.length (bl h0_3)))
 (cond (sm 4 && Nat.ble (List.length (h3 ++ eSs (List.map it [h0_4]))) 100000000)
 (G (pline_q48 h0_0 h0_1 h0_2 h0_3 h0_4 h0_5 h0_6 h0_7 h0_8 h0_9 h0_10 h0_11 h0_12 h0_13 (h3 ++ eSs (List.map it [h0_4]) ++ [[L.str h0_1], [L.str h0_2], [L.str (mk (qt (bl h0_8)))], [L.str (mk (qt (bl h0_3)))]])))
 none)
 none)
 none)
 (cond (sm (List.length (bl h0_8)))
 (dupN 1
 (cond (sm (List.length (bl h0_3)))
 (cond (sm 4 && Nat.ble (List.length (h3 ++ eSs (List.map it [h0_4]))) 100000000)
 (G (pline_q48 h0_0 h0_1 h0_2 h0_3 h0_4 h0_5 h0_6 h0_7 h0_8 h0_9 h0_10 h0_11 h0_12 h0_13 (h3 ++ eSs (List.map it [h0_4]) ++ [[L.str h0_1], [L.str h0_2], [L.str (mk (qt (bl h0_8)))], [L.str (mk (qt (bl h0_3)))]])))
 none)
 none))
 none))))
 (both
 (cond (sm (List.length (bl h0_8)))
 (both
 (dupN 1
 (cond (sm (List.length (bl h0_3)))
 (cond (sm 4 && Nat.ble (List.length (h3 ++ eSs (List.map it [h0_4]))) 100000000)
 (G (pline_q48 h0_0 h0_1 h0_2 h0_3 h0_4 h0_5 h0_6 h0_7 h0_8 h0_9 h0_10 h0_11 h0_12 h0_13 (h3 ++ eSs (List.map it [h0_4]) ++ [[L.str h0_1], [L.str h0_2], [L.str (mk (qt (bl h0_8)))], [L.str (mk (qt (bl h0_3)))]])))
 none)
 none))
 (both
 (dupN 1
 (cond (sm (List.length (bl h0_3)))
 (cond (sm 4 && Nat.ble (List.length (h3 ++ eSs (List.map it [h0_4]))) 100000000)
 (G (pline_q48 h0_0 h0_1 h0_2 h0_3 h0_4 h0_5 h0_6 h0_7 h0_8 h0_9 h0_10 h0_11 h0_12 h0_13 (h3 ++ eSs (List.map it [h0_4]) ++ [[L.str h0_1], [L.str h0_2], [L.str (mk (qt (bl h0_8)))], [L.str (mk (qt (bl h0_3)))]])))
 none)
 none))
 (cond (sm (List.length (bl h0_3)))
 (cond (sm 4 && Nat.ble (List.length (h3 ++ eSs (List.map it [h0_4]))) 100000000)
 (G (pline_q48 h0_0 h0_1 h0_2 h0_3 h0_4 h0_5 h0_6 h0_7 h0_8 h0_9 h0_10 h0_11 h0_12 h0_13 (h3 ++ eSs (List.map it [h0_4]) ++ [[L.str h0_1], [L.str h0_2], [L.str (mk (qt (bl h0_8)))], [L.str (mk (qt (bl h0_3)))]])))
 none)
 none)))
 none)
 (both
 (both
 (cond (sm (List.length (bl h0_8)))
 (cond (sm (List.length (bl h0_3)))
 (cond (sm 4 && Nat.ble (List.length (h3 ++ eSs (List.map it [h0_4]))) 100000000)
 (G (pline_q48 h0_0 h0_1 h0_2 h0_3 h0_4 h0_5 h0_6 h0_7 h0_8 h0_9 h0_10 h0_11 h0_12 h0_13 (h3 ++ eSs (List.map it [h0_4]) ++ [[L.str h0_1], [L.str h0_2], [L.str (mk (qt (bl h0_8)))], [L.str (mk (qt (bl h0_3)))]])))
 none)
 none)
 none)
 (cond (sm (List.length (bl h0_8)))
 (dupN 1
 (cond (sm (List.length (bl h0_3)))
 (cond (sm 4 && Nat.ble (List.length (h3 ++ eSs (List.map it [h0_4]))) 100000000)
 (G (pline_q48 h0_0 h0_1 h0_2 h0_3 h0_4 h0_5 h0_6 h0_7 h0_8 h0_9 h0_10 h0_11 h0_12 h0_13 (h3 ++ eSs (List.map it [h0_4]) ++ [[L.str h0_1], [L.str h0_2], [L.str (mk (qt (bl h0_8)))], [L.str (mk (qt (bl h0_3)))]])))
 none)
 none))
 none))
 (both
 (both
 (cond (sm (List.length (bl h0_8)))
 (cond (sm (List.length (bl h0_3)))
 (cond (sm 4 && Nat.ble (List.length (h3 ++ eSs (List.map it [h0_4]))) 100000000)
 (G (pline_q48 h0_0 h0_1 h0_2 h0_3 h0_4 h0_5 h0_6 h0_7 h0_8 h0_9 h0_10 h0_11 h0_12 h0_13 (h3 ++ eSs (List.map it [h0_4]) ++ [[L.str h0_1], [L.str h0_2], [L.str (mk (qt (bl h0_8)))], [L.str (mk (qt (bl h0_3)))]])))
 none)
 none)
 none)
 (cond (sm (List.length (bl h0_8)))
 (dupN 1
 (cond (sm (List.length (bl h0_3)))
 (cond (sm 4 && Nat.ble (List.length (h3 ++ eSs (List.map it [h0_4]))) 100000000)
 (G (pline_q48 h0_0 h0_1 h0_2 h0_3 h0_4 h0_5 h0_6 h0_7 h0_8 h0_9 h0_10 h0_11 h0_12 h0_13 (h3 ++ eSs (List.map it [h0_4]) ++ [[L.str h0_1], [L.str h0_2], [L.str (mk (qt (bl h0_8)))], [L.str (mk (qt (bl h0_3)))]])))
 none)
 none))
 none))
 (cond (sm (List.length (bl h0_8)))
 (both
 (dupN 1
 (cond (sm (List.length (bl h0_3)))
 (cond (sm 4 && Nat.ble (List.length (h3 ++ eSs (List.map it [h0_4]))) 100000000)
 (G (pline_q48 h0_0 h0_1 h0_2 h0_3 h0_4 h0_5 h0_6 h0_7 h0_8 h0_9 h0_10 h0_11 h0_12 h0_13 (h3 ++ eSs (List.map it [h0_4]) ++ [[L.str h0_1], [L.str h0_2], [L.str (mk (qt (bl h0_8)))], [L.str (mk (qt (bl h0_3)))]])))
 none)
 none))
 (both
 (dupN 1
 (cond (sm (List.length (bl h0_3)))
 (cond (sm 4 && Nat.ble (List.length (h3 ++ eSs (List.map it [h0_4]))) 100000000)
 (G (pline_q48 h0_0 h0_1 h0_2 h0_3 h0_4 h0_5 h0_6 h0_7 h0_8 h0_9 h0_10 h0_11 h0_12 h0_13 (h3 ++ eSs (List.map it [h0_4]) ++ [[L.str h0_1], [L.str h0_2], [L.str (mk (qt (bl h0_8)))], [L.str (mk (qt (bl h0_3)))]])))
 none)
 none))
 (cond (sm (List.length (bl h0_3)))
 (cond (sm 4 && Nat.ble (List.length (h3 ++ eSs (List.map it [h0_4]))) 100000000)
 (G (pline_q48 h0_0 h0_1 h0_2 h0_3 h0_4 h0_5 h0_6 h0_7 h0_8 h0_9 h0_10 h0_11 h0_12 h0_13 (h3 ++ eSs (List.map it [h0_4]) ++ [[L.str h0_1], [L.str h0_2], [L.str (mk (qt (bl h0_8)))], [L.str (mk (qt (bl h0_3)))]])))
 none)
 none)))
 none))))))
 (both
 (both
 (both
 (dupN 1
 (cond (sm (List.length (bl h0_8)))
 (cond (sm (List.length (bl h0_3)))
 (cond (sm 4 && Nat.ble (List.length (h3 ++ eSs (List.map it [h0_4]))) 100000000)
 (G (pline_q48 h0_0 h0_1 h0_2 h0_3 h0_4 h0_5 h0_6 h0_7 h0_8 h0_9 h0_10 h0_11 h0_12 h0_13 (h3 ++ eSs (List.map it [h0_4]) ++ [[L.str h0_1], [L.str h0_2], [L.str (mk (qt (bl h0_8)))], [L.str (mk (qt (bl h0_3)))]])))
 none)
 none)
 none))
 (both
 (cond (sm (List.length (bl h0_8)))
 (dupN 1
 (cond (sm (List.length (bl h0_3)))
 (cond (sm 4 && Nat.ble (List.length (h3 ++ eSs (List.map it [h0_4]))) 100000000)
 (G (pline_q48 h0_0 h0_1 h0_2 h0_3 h0_4 h0_5 h0_6 h0_7 h0_8 h0_9 h0_10 h0_11 h0_12 h0_13 (h3 ++ eSs (List.map it [h0_4]) ++ [[L.str h0_1], [L.str h0_2], [L.str (mk (qt (bl h0_8)))], [L.str (mk (qt (bl h0_3)))]])))
 none)
 none))
 none)
 (both
 (cond (sm (List.length (bl h0_8)))
 (cond (sm (List.length (bl h0_3)))
 (cond (sm 4 && Nat.ble (List.length (h3 ++ eSs (List.map it [h0_4]))) 100000000)
 (G (pline_q48 h0_0 h0_1 h0_2 h0_3 h0_4 h0_5 h0_6 h0_7 h0_8 h0_9 h0_10 h0_11 h0_12 h0_13 (h3 ++ eSs (List.map it [h0_4]) ++ [[L.str h0_1], [L.str h0_2], [L.str (mk (qt (bl h0_8)))], [L.str (mk (qt (bl h0_3)))]])))
 none)
 none)
 none)
 (cond (sm (List.length (bl h0_8)))
 (dupN 1
 (cond (sm (List.length (bl h0_3)))
 (cond (sm 4 && Nat.ble (List.length (h3 ++ eSs (List.map it [h0_4]))) 100000000)
 (G (pline_q48 h0_0 h0_1 h0_2 h0_3 h0_4 h0_5 h0_6 h0_7 h0_8 h0_9 h0_10 h0_11 h0_12 h0_13 (h3 ++ eSs (List.map it [h0_4]) ++ [[L.str h0_1], [L.str h0_2], [L.str (mk (qt (bl h0_8)))], [L.str (mk (qt (bl h0_3)))]])))
 none)
 none))
 none))))
 (both
 (both
 (dupN 1
 (cond (sm (List.length (bl h0_8)))
 (cond (sm (List.length (bl h0_3)))
 (cond (sm 4 && Nat.ble (List.length (h3 ++ eSs (List.map it [h0_4]))) 100000000)
 (G (pline_q48 h0_0 h0_1 h0_2 h0_3 h0_4 h0_5 h0_6 h0_7 h0_8 h0_9 h0_10 h0_11 h0_12 h0_13 (h3 ++ eSs (List.map it [h0_4]) ++ [[L.str h0_1], [L.str h0_2], [L.str (mk (qt (bl h0_8)))], [L.str (mk (qt (bl h0_3)))]])))
 none)
 none)
 none))
 (both
 (cond (sm (List.length (bl h0_8)))
 (dupN 1
 (cond (sm (List.length (bl h0_3)))
 (cond (sm 4 && Nat.ble (List.length (h3 ++ eSs (List.map it [h0_4]))) 100000000)
 (G (pline_q48 h0_0 h0_1 h0_2 h0_3 h0_4 h0_5 h0_6 h0_7 h0_8 h0_9 h0_10 h0_11 h0_12 h0_13 (h3 ++ eSs (List.map it [h0_4]) ++ [[L.str h0_1], [L.str h0_2], [L.str (mk (qt (bl h0_8)))], [L.str (mk (qt (bl h0_3)))]])))
 none)
 none))
 none)
 (both
 (cond (sm (List.length (bl h0_8)))
 (cond (sm (List.length (bl h0_3)))
 (cond (sm 4 && Nat.ble (List.length (h3 ++ eSs (List.map it [h0_4]))) 100000000)
 (G (pline_q48 h0_0 h0_1 h0_2 h0_3 h0_4 h0_5 h0_6 h0_7 h0_8 h0_9 h0_10 h0_11 h0_12 h0_13 (h3 ++ eSs (List.map it [h0_4]) ++ [[L.str h0_1], [L.str h0_2], [L.str (mk (qt (bl h0_8)))], [L.str (mk (qt (bl h0_3)))]])))
 none)
 none)
 none)
 (cond (sm (List.length (bl h0_8)))
 (dupN 1
 (cond (sm (List.length (bl h0_3)))
 (cond (sm 4 && Nat.ble (List.length (h3 ++ eSs (List.map it [h0_4]))) 100000000)
 (G (pline_q48 h0_0 h0_1 h0_2 h0_3 h0_4 h0_5 h0_6 h0_7 h0_8 h0_9 h0_10 h0_11 h0_12 h0_13 (h3 ++ eSs (List.map it [h0_4]) ++ [[L.str h0_1], [L.str h0_2], [L.str (mk (qt (bl h0_8)))], [L.str (mk (qt (bl h0_3)))]])))
 none)
 none))
 none))))
 (both
 (cond (sm (List.length (bl h0_8)))
 (both
 (dupN 1
 (cond (sm (List.length (bl h0_3)))
 (cond (sm 4 && Nat.ble (List.length (h3 ++ eSs (List.map it [h0_4]))) 100000000)
 (G (pline_q48 h0_0 h0_1 h0_2 h0_3 h0_4 h0_5 h0_6 h0_7 h0_8 h0_9 h0_10 h0_11 h0_12 h0_13 (h3 ++ eSs (List.map it [h0_4]) ++ [[L.str h0_1], [L.str h0_2], [L.str (mk (qt (bl h0_8)))], [L.str (mk (qt (bl h0_3)))]])))
 none)
 none))
 (both
 (dupN 1
 (cond (sm (List.length (bl h0_3)))
 (cond (sm 4 && Nat.ble (List.length (h3 ++ eSs (List.map it [h0_4]))) 100000000)
 (G (pline_q48 h0_0 h0_1 h0_2 h0_3 h0_4 h0_5 h0_6 h0_7 h0_8 h0_9 h0_10 h0_11 h0_12 h0_13 (h3 ++ eSs (List.map it [h0_4]) ++ [[L.str h0_1], [L.str h0_2], [L.str (mk (qt (bl h0_8)))], [L.str (mk (qt (bl h0_3)))]])))
 none)
 none))
 (cond (sm (List.length (bl h0_3)))
 (cond (sm 4 && Nat.ble (List.length (h3 ++ eSs (List.map it [h0_4]))) 100000000)
 (G (pline_q48 h0_0 h0_1 h0_2 h0_3 h0_4 h0_5 h0_6 h0_7 h0_8 h0_9 h0_10 h0_11 h0_12 h0_13 (h3 ++ eSs (List.map it [h0_4]) ++ [[L.str h0_1], [L.str h0_2], [L.str (mk (qt (bl h0_8)))], [L.str (mk (qt (bl h0_3)))]])))
 none)
 none)))
 none)
 (both
 (both
 (cond (sm (List.length (bl h0_8)))
 (cond (sm (List.length (bl h0_3)))
 (cond (sm 4 && Nat.ble (List.length (h3 ++ eSs (List.map it [h0_4]))) 100000000)
 (G (pline_q48 h0_0 h0_1 h0_2 h0_3 h0_4 h0_5 h0_6 h0_7 h0_8 h0_9 h0_10 h0_11 h0_12 h0_13 (h3 ++ eSs (List.map it [h0_4]) ++ [[L.str h0_1], [L.str h0_2], [L.str (mk (qt (bl h0_8)))], [L.str (mk (qt (bl h0_3)))]])))
 none)
 none)
 none)
 (cond (sm (List.length (bl h0_8)))
 (dupN 1
 (cond (sm (List.length (bl h0_3)))
 (cond (sm 4 && Nat.ble (List.length (h3 ++ eSs (List.map it [h0_4]))) 100000000)
 (G (pline_q48 h0_0 h0_1 h0_2 h0_3 h0_4 h0_5 h0_6 h0_7 h0_8 h0_9 h0_10 h0_11 h0_12 h0_13 (h3 ++ eSs (List.map it [h0_4]) ++ [[L.str h0_1], [L.str h0_2], [L.str (mk (qt (bl h0_8)))], [L.str (mk (qt (bl h0_3)))]])))
 none)
 none))
 none))
 (both
 (both
 (cond (sm (List.length (bl h0_8)))
 (cond (sm (List.length (bl h0_3)))
 (cond (sm 4 && Nat.ble (List.length (h3 ++ eSs (List.map it [h0_4]))) 100000000)
 (G (pline_q48 h0_0 h0_1 h0_2 h0_3 h0_4 h0_5 h0_6 h0_7 h0_8 h0_9 h0_10 h0_11 h0_12 h0_13 (h3 ++ eSs (List.map it [h0_4]) ++ [[L.str h0_1], [L.str h0_2], [L.str (mk (qt (bl h0_8)))], [L.str (mk (qt (bl h0_3)))]])))
 none)
 none)
 none)
 (cond (sm (List.length (bl h0_8)))
 (dupN 1
 (cond (sm (List.length (bl h0_3)))
 (cond (sm 4 && Nat.ble (List.length (h3 ++ eSs (List.map it [h0_4]))) 100000000)
 (G (pline_q48 h0_0 h0_1 h0_2 h0_3 h0_4 h0_5 h0_6 h0_7 h0_8 h0_9 h0_10 h0_11 h0_12 h0_13 (h3 ++ eSs (List.map it [h0_4]) ++ [[L.str h0_1], [L.str h0_2], [L.str (mk (qt (bl h0_8)))], [L.str (mk (qt (bl h0_3)))]])))
 none)
 none))
 none))
 (cond (sm (List.length (bl h0_8)))
 (both
 (dupN 1
 (cond (sm (List.length (bl h0_3)))
 (cond (sm 4 && Nat.ble (List.length (h3 ++ eSs (List.map it [h0_4]))) 100000000)
 (G (pline_q48 h0_0 h0_1 h0_2 h0_3 h0_4 h0_5 h0_6 h0_7 h0_8 h0_9 h0_10 h0_11 h0_12 h0_13 (h3 ++ eSs (List.map it [h0_4]) ++ [[L.str h0_1], [L.str h0_2], [L.str (mk (qt (bl h0_8)))], [L.str (mk (qt (bl h0_3)))]])))
 none)
 none))
 (both
 (dupN 1
 (cond (sm (List.length (bl h0_3)))
 (cond (sm 4 && Nat.ble (List.length (h3 ++ eSs (List.map it [h0_4]))) 100000000)
 (G (pline_q48 h0_0 h0_1 h0_2 h0_3 h0_4 h0_5 h0_6 h0_7 h0_8 h0_9 h0_10 h0_11 h0_12 h0_13 (h3 ++ eSs (List.map it [h0_4]) ++ [[L.str h0_1], [L.str h0_2], [L.str (mk (qt (bl h0_8)))], [L.str (mk (qt (bl h0_3)))]])))
 none)
 none))
 (cond (sm (List.length (bl h0_3)))
 (cond (sm 4 && Nat.ble (List.length (h3 ++ eSs (List.map it [h0_4]))) 100000000)
 (G (pline_q48 h0_0 h0_1 h0_2 h0_3 h0_4 h0_5 h0_6 h0_7 h0_8 h0_9 h0_10 h0_11 h0_12 h0_13 (h3 ++ eSs (List.map it [h0_4]) ++ [[L.str h0_1], [L.str h0_2], [L.str (mk (qt (bl h0_8)))], [L.str (mk (qt (bl h0_3)))]])))
 none)
 none)))
 none))))))
 (both
 (cond (sm (List.length (bl h0_8)))
 (both
 (both
 (dupN 1
 (cond (sm (List.length (bl h0_3)))
 (cond (sm 4 && Nat.ble (List.length (h3 ++ eSs (List.map it [h0_4]))) 100000000)
 (G (pline_q48 h0_0 h0_1 h0_2 h0_3 h0_4 h0_5 h0_6 h0_7 h0_8 h0_9 h0_10 h0_11 h0_12 h0_13 (h3 ++ eSs (List.map it [h0_4]) ++ [[L.str h0_1], [L.str h0_2], [L.str (mk (qt (bl h0_8)))], [L.str (mk (qt (bl h0_3)))]])))
 none)
 none))
 (both
 (dupN 1
 (cond (sm (List.length (bl h0_3)))
 (cond (sm 4 && Nat.ble (List.length (h3 ++ eSs (List.map it [h0_4]))) 100000000)
 (G (pline_q48 h0_0 h0_1 h0_2 h0_3 h0_4 h0_5 h0_6 h0_7 h0_8 h0_9 h0_10 h0_11 h0_12 h0_13 (h3 ++ eSs (List.map it [h0_4]) ++ [[L.str h0_1], [L.str h0_2], [L.str (mk (qt (bl h0_8)))], [L.str (mk (qt (bl h0_3)))]])))
 none)
 none))
 (cond (sm (List.length (bl h0_3)))
 (cond (sm 4 && Nat.ble (List.length (h3 ++ eSs (List.map it [h0_4]))) 100000000)
 (G (pline_q48 h0_0 h0_1 h0_2 h0_3 h0_4 h0_5 h0_6 h0_7 h0_8 h0_9 h0_10 h0_11 h0_12 h0_13 (h3 ++ eSs (List.map it [h0_4]) ++ [[L.str h0_1], [L.str h0_2], [L.str (mk (qt (bl h0_8)))], [L.str (mk (qt (bl h0_3)))]])))
 none)
 none)))
 (both
 (both
 (dupN 1
 (cond (sm (List.length (bl h0_3)))
 (cond (sm 4 && Nat.ble (List.length (h3 ++ eSs (List.map it [h0_4]))) 100000000)
 (G (pline_q48 h0_0 h0_1 h0_2 h0_3 h0_4 h0_5 h0_6 h0_7 h0_8 h0_9 h0_10 h0_11 h0_12 h0_13 (h3 ++ eSs (List.map it [h0_4]) ++ [[L.str h0_1], [L.str h0_2], [L.str (mk (qt (bl h0_8)))], [L.str (mk (qt (bl h0_3)))]])))
 none)
 none))
 (both
 (dupN 1
 (cond (sm (List.length (bl h0_3)))
 (cond (sm 4 && Nat.ble (List.length (h3 ++ eSs (List.map it [h0_4]))) 100000000)
 (G (pline_q48 h0_0 h0_1 h0_2 h0_3 h0_4 h0_5 h0_6 h0_7 h0_8 h0_9 h0_10 h0_11 h0_12 h0_13 (h3 ++ eSs (List.map it [h0_4]) ++ [[L.str h0_1], [L.str h0_2], [L.str (mk (qt (bl h0_8)))], [L.str (mk (qt (bl h0_3)))]])))
 none)
 none))
 (cond (sm (List.length (bl h0_3)))
 (cond (sm 4 && Nat.ble (List.length (h3 ++ eSs (List.map it [h0_4]))) 100000000)
 (G (pline_q48 h0_0 h0_1 h0_2 h0_3 h0_4 h0_5 h0_6 h0_7 h0_8 h0_9 h0_10 h0_11 h0_12 h0_13 (h3 ++ eSs (List.map it [h0_4]) ++ [[L.str h0_1], [L.str h0_2], [L.str (mk (qt (bl h0_8)))], [L.str (mk (qt (bl h0_3)))]])))
 none)
 none)))
 (both
 (both
 (dupN 1
 (cond (sm (List.length (bl h0_3)))
 (cond (sm 4 && Nat.ble (List.length (h3 ++ eSs (List.map it [h0_4]))) 100000000)
 (G (pline_q48 h0_0 h0_1 h0_2 h0_3 h0_4 h0_5 h0_6 h0_7 h0_8 h0_9 h0_10 h0_11 h0_12 h0_13 (h3 ++ eSs (List.map it [h0_4]) ++ [[L.str h0_1], [L.str h0_2], [L.str (mk (qt (bl h0_8)))], [L.str (mk (qt (bl h0_3)))]])))
 none)
 none))
 (both
 (dupN 1
 (cond (sm (List.length (bl h0_3)))
 (cond (sm 4 && Nat.ble (List.length (h3 ++ eSs (List.map it [h0_4]))) 100000000)
 (G (pline_q48 h0_0 h0_1 h0_2 h0_3 h0_4 h0_5 h0_6 h0_7 h0_8 h0_9 h0_10 h0_11 h0_12 h0_13 (h3 ++ eSs (List.map it [h0_4]) ++ [[L.str h0_1], [L.str h0_2], [L.str (mk (qt (bl h0_8)))], [L.str (mk (qt (bl h0_3)))]])))
 none)
 none))
 (cond (sm (List.length (bl h0_3)))
 (cond (sm 4 && Nat.ble (List.length (h3 ++ eSs (List.map it [h0_4]))) 100000000)
 (G (pline_q48 h0_0 h0_1 h0_2 h0_3 h0_4 h0_5 h0_6 h0_7 h0_8 h0_9 h0_10 h0_11 h0_12 h0_13 (h3 ++ eSs (List.map it [h0_4]) ++ [[L.str h0_1], [L.str h0_2], [L.str (mk (qt (bl h0_8)))], [L.str (mk (qt (bl h0_3)))]])))
 none)
 none)))
 (cond (sm (List.length (bl h0_3)))
 (cond (sm 4 && Nat.ble (List.length (h3 ++ eSs (List.map it [h0_4]))) 100000000)
 (G (pline_q48 h0_0 h0_1 h0_2 h0_3 h0_4 h0_5 h0_6 h0_7 h0_8 h0_9 h0_10 h0_11 h0_12 h0_13 (h3 ++ eSs (List.map it [h0_4]) ++ [[L.str h0_1], [L.str h0_2], [L.str (mk (qt (bl h0_8)))], [L.str (mk (qt (bl h0_3)))]])))
 none)
 none))))
 none)
 (both
 (both
 (both
 (cond (sm (List.length (bl h0_8)))
 (cond (sm (List.length (bl h0_3)))
 (cond (sm 4 && Nat.ble (List.length (h3 ++ eSs (List.map it [h0_4]))) 100000000)
 (G (pline_q48 h0_0 h0_1 h0_2 h0_3 h0_4 h0_5 h0_6 h0_7 h0_8 h0_9 h0_10 h0_11 h0_12 h0_13 (h3 ++ eSs (List.map it [h0_4]) ++ [[L.str h0_1], [L.str h0_2], [L.str (mk (qt (bl h0_8)))], [L.str (mk (qt (bl h0_3)))]])))
 none)
 none)
 none)
 (cond (sm (List.length (bl h0_8)))
 (dupN 1
 (cond (sm (List.length (bl h0_3)))
 (cond (sm 4 && Nat.ble (List.length (h3 ++ eSs (List.map it [h0_4]))) 100000000)
 (G (pline_q48 h0_0 h0_1 h0_2 h0_3 h0_4 h0_5 h0_6 h0_7 h0_8 h0_9 h0_10 h0_11 h0_12 h0_13 (h3 ++ eSs (List.map it [h0_4]) ++ [[L.str h0_1], [L.str h0_2], [L.str (mk (qt (bl h0_8)))], [L.str (mk (qt (bl h0_3)))]])))
 none)
 none))
 none))
 (both
 (both
 (cond (sm (List.length (bl h0_8)))
 (cond (sm (List.length (bl h0_3)))
 (cond (sm 4 && Nat.ble (List.length (h3 ++ eSs (List.map it [h0_4]))) 100000000)
 (G (pline_q48 h0_0 h0_1 h0_2 h0_3 h0_4 h0_5 h0_6 h0_7 h0_8 h0_9 h0_10 h0_11 h0_12 h0_13 (h3 ++ eSs (List.map it [h0_4]) ++ [[L.str h0_1], [L.str h0_2], [L.str (mk (qt (bl h0_8)))], [L.str (mk (qt (bl h0_3)))]])))
 none)
 none)
 none)
 (cond (sm (List.length (bl h0_8)))
 (dupN 1
 (cond (sm (List.length (bl h0_3)))
 (cond (sm 4 && Nat.ble (List.length (h3 ++ eSs (List.map it [h0_4]))) 100000000)
 (G (pline_q48 h0_0 h0_1 h0_2 h0_3 h0_4 h0_5 h0_6 h0_7 h0_8 h0_9 h0_10 h0_11 h0_12 h0_13 (h3 ++ eSs (List.map it [h0_4]) ++ [[L.str h0_1], [L.str h0_2], [L.str (mk (qt (bl h0_8)))], [L.str (mk (qt (bl h0_3)))]])))
 none)
 none))
 none))
 (cond (sm (List.length (bl h0_8)))
 (both
 (dupN 1
 (cond (sm (List.length (bl h0_3)))
 (cond (sm 4 && Nat.ble (List.length (h3 ++ eSs (List.map it [h0_4]))) 100000000)
 (G (pline_q48 h0_0 h0_1 h0_2 h0_3 h0_4 h0_5 h0_6 h0_7 h0_8 h0_9 h0_10 h0_11 h0_12 h0_13 (h3 ++ eSs (List.map it [h0_4]) ++ [[L.str h0_1], [L.str h0_2], [L.str (mk (qt (bl h0_8)))], [L.str (mk (qt (bl h0_3)))]])))
 none)
 none))
 (both
 (dupN 1
 (cond (sm (List.length (bl h0_3)))
 (cond (sm 4 && Nat.ble (List.length (h3 ++ eSs (List.map it [h0_4]))) 100000000)
 (G (pline_q48 h0_0 h0_1 h0_2 h0_3 h0_4 h0_5 h0_6 h0_7 h0_8 h0_9 h0_10 h0_11 h0_12 h0_13 (h3 ++ eSs (List.map it [h0_4]) ++ [[L.str h0_1], [L.str h0_2], [L.str (mk (qt (bl h0_8)))], [L.str (mk (qt (bl h0_3)))]])))
 none)
 none))
 (cond (sm (List.length (bl h0_3)))
 (cond (sm 4 && Nat.ble (List.length (h3 ++ eSs (List.map it [h0_4]))) 100000000)
 (G (pline_q48 h0_0 h0_1 h0_2 h0_3 h0_4 h0_5 h0_6 h0_7 h0_8 h0_9 h0_10 h0_11 h0_12 h0_13 (h3 ++ eSs (List.map it [h0_4]) ++ [[L.str h0_1], [L.str h0_2], [L.str (mk (qt (bl h0_8)))], [L.str (mk (qt (bl h0_3)))]])))
 none)
 none)))
 none)))
 (both
 (both
 (both
 (cond (sm (List.length (bl h0_8)))
 (cond (sm (List.length (bl h0_3)))
 (cond (sm 4 && Nat.ble (List.length (h3 ++ eSs (List.map it [h0_4]))) 100000000)
 (G (pline_q48 h0_0 h0_1 h0_2 h0_3 h0_4 h0_5 h0_6 h0_7 h0_8 h0_9 h0_10 h0_11 h0_12 h0_13 (h3 ++ eSs (List.map it [h0_4]) ++ [[L.str h0_1], [L.str h0_2], [L.str (mk (qt (bl h0_8)))], [L.str (mk (qt (bl h0_3)))]])))
 none)
 none)
 none)
 (cond (sm (List.length (bl h0_8)))
 (dupN 1
 (cond (sm (List.length (bl h0_3)))
 (cond (sm 4 && Nat.ble (List.length (h3 ++ eSs (List.map it [h0_4]))) 100000000)
 (G (pline_q48 h0_0 h0_1 h0_2 h0_3 h0_4 h0_5 h0_6 h0_7 h0_8 h0_9 h0_10 h0_11 h0_12 h0_13 (h3 ++ eSs (List.map it [h0_4]) ++ [[L.str h0_1], [L.str h0_2], [L.str (mk (qt (bl h0_8)))], [L.str (mk (qt (bl h0_3)))]])))
 none)
 none))
 none))
 (both
 (both
 (cond (sm (List.length (bl h0_8)))
 (cond (sm (List.length (bl h0_3)))
 (cond (sm 4 && Nat.ble (List.length (h3 ++ eSs (List.map it [h0_4]))) 100000000)
 (G (pline_q48 h0_0 h0_1 h0_2 h0_3 h0_4 h0_5 h0_6 h0_7 h0_8 h0_9 h0_10 h0_11 h0_12 h0_13 (h3 ++ eSs (List.map it [h0_4]) ++ [[L.str h0_1], [L.str h0_2], [L.str (mk (qt (bl h0_8)))], [L.str (mk (qt (bl h0_3)))]])))
 none)
 none)
 none)
 (cond (sm (List.length (bl h0_8)))
 (dupN 1
 (cond (sm (List.length (bl h0_3)))
 (cond (sm 4 && Nat.ble (List.length (h3 ++ eSs (List.map it [h0_4]))) 100000000)
 (G (pline_q48 h0_0 h0_1 h0_2 h0_3 h0_4 h0_5 h0_6 h0_7 h0_8 h0_9 h0_10 h0_11 h0_12 h0_13 (h3 ++ eSs (List.map it [h0_4]) ++ [[L.str h0_1], [L.str h0_2], [L.str (mk (qt (bl h0_8)))], [L.str (mk (qt (bl h0_3)))]])))
 none)
 none))
 none))
 (cond (sm (List.length (bl h0_8)))
 (both
 (dupN 1
 (cond (sm (List.length (bl h0_3)))
 (cond (sm 4 && Nat.ble (List.length (h3 ++ eSs (List.map it [h0_4]))) 100000000)
 (G (pline_q48 h0_0 h0_1 h0_2 h0_3 h0_4 h0_5 h0_6 h0_7 h0_8 h0_9 h0_10 h0_11 h0_12 h0_13 (h3 ++ eSs (List.map it [h0_4]) ++ [[L.str h0_1], [L.str h0_2], [L.str (mk (qt (bl h0_8)))], [L.str (mk (qt (bl h0_3)))]])))
 none)
 none))
 (both
 (dupN 1
 (cond (sm (List.length (bl h0_3)))
 (cond (sm 4 && Nat.ble (List.length (h3 ++ eSs (List.map it [h0_4]))) 100000000)
 (G (pline_q48 h0_0 h0_1 h0_2 h0_3 h0_4 h0_5 h0_6 h0_7 h0_8 h0_9 h0_10 h0_11 h0_12 h0_13 (h3 ++ eSs (List.map it [h0_4]) ++ [[L.str h0_1], [L.str h0_2], [L.str (mk (qt (bl h0_8)))], [L.str (mk (qt (bl h0_3)))]])))
 none)
 none))
 (cond (sm (List.length (bl h0_3)))
 (cond (sm 4 && Nat.ble (List.length (h3 ++ eSs (List.map it [h0_4]))) 100000000)
 (G (pline_q48 h0_0 h0_1 h0_2 h0_3 h0_4 h0_5 h0_6 h0_7 h0_8 h0_9 h0_10 h0_11 h0_12 h0_13 (h3 ++ eSs (List.map it [h0_4]) ++ [[L.str h0_1], [L.str h0_2], [L.str (mk (qt (bl h0_8)))], [L.str (mk (qt (bl h0_3)))]])))
 none)
 none)))
 none)))
 (both
 (both
 (both
 (cond (sm (List.length (bl h0_8)))
 (cond (sm (List.length (bl h0_3)))
 (cond (sm 4 && Nat.ble (List.length (h3 ++ eSs (List.map it [h0_4]))) 100000000)
 (G (pline_q48 h0_0 h0_1 h0_2 h0_3 h0_4 h0_5 h0_6 h0_7 h0_8 h0_9 h0_10 h0_11 h0_12 h0_13 (h3 ++ eSs (List.map it [h0_4]) ++ [[L.str h0_1], [L.str h0_2], [L.str (mk (qt (bl h0_8)))], [L.str (mk (qt (bl h0_3)))]])))
 none)
 none)
 none)
 (cond (sm (List.length (bl h0_8)))
 (dupN 1
 (cond (sm (List.length (bl h0_3)))
 (cond (sm 4 && Nat.ble (List.length (h3 ++ eSs (List.map it [h0_4]))) 100000000)
 (G (pline_q48 h0_0 h0_1 h0_2 h0_3 h0_4 h0_5 h0_6 h0_7 h0_8 h0_9 h0_10 h0_11 h0_12 h0_13 (h3 ++ eSs (List.map it [h0_4]) ++ [[L.str h0_1], [L.str h0_2], [L.str (mk (qt (bl h0_8)))], [L.str (mk (qt (bl h0_3)))]])))
 none)
 none))
 none))
 (both
 (both
 (cond (sm (List.length (bl h0_8)))
 (cond (sm (List.length (bl h0_3)))
 (cond (sm 4 && Nat.ble (List.length (h3 ++ eSs (List.map it [h0_4]))) 100000000)
 (G (pline_q48 h0_0 h0_1 h0_2 h0_3 h0_4 h0_5 h0_6 h0_7 h0_8 h0_9 h0_10 h0_11 h0_12 h0_13 (h3 ++ eSs (List.map it [h0_4]) ++ [[L.str h0_1], [L.str h0_2], [L.str (mk (qt (bl h0_8)))], [L.str (mk (qt (bl h0_3)))]])))
 none)
 none)
 none)
 (cond (sm (List.length (bl h0_8)))
 (dupN 1
 (cond (sm (List.length (bl h0_3)))
 (cond (sm 4 && Nat.ble (List.length (h3 ++ eSs (List.map it [h0_4]))) 100000000)
 (G (pline_q48 h0_0 h0_1 h0_2 h0_3 h0_4 h0_5 h0_6 h0_7 h0_8 h0_9 h0_10 h0_11 h0_12 h0_13 (h3 ++ eSs (List.map it [h0_4]) ++ [[L.str h0_1], [L.str h0_2], [L.str (mk (qt (bl h0_8)))], [L.str (mk (qt (bl h0_3)))]])))
 none)
 none))
 none))
 (cond (sm (List.length (bl h0_8)))
 (both
 (dupN 1
 (cond (sm (List.length (bl h0_3)))
 (cond (sm 4 && Nat.ble (List.length (h3 ++ eSs (List.map it [h0_4]))) 100000000)
 (G (pline_q48 h0_0 h0_1 h0_2 h0_3 h0_4 h0_5 h0_6 h0_7 h0_8 h0_9 h0_10 h0_11 h0_12 h0_13 (h3 ++ eSs (List.map it [h0_4]) ++ [[L.str h0_1], [L.str h0_2], [L.str (mk (qt (bl h0_8)))], [L.str (mk (qt (bl h0_3)))]])))
 none)
 none))
 (both
 (dupN 1
 (cond (sm (List.length (bl h0_3)))
 (cond (sm 4 && Nat.ble (List.length (h3 ++ eSs (List.map it [h0_4]))) 100000000)
 (G (pline_q48 h0_0 h0_1 h0_2 h0_3 h0_4 h0_5 h0_6 h0_7 h0_8 h0_9 h0_10 h0_11 h0_12 h0_13 (h3 ++ eSs (List.map it [h0_4]) ++ [[L.str h0_1], [L.str h0_2], [L.str (mk (qt (bl h0_8)))], [L.str (mk (qt (bl h0_3)))]])))
 none)
 none))
 (cond (sm (List.length (bl h0_3)))
 (cond (sm 4 && Nat.ble (List.length (h3 ++ eSs (List.map it [h0_4]))) 100000000)
 (G (pline_q48 h0_0 h0_1 h0_2 h0_3 h0_4 h0_5 h0_6 h0_7 h0_8 h0_9 h0_10 h0_11 h0_12 h0_13 (h3 ++ eSs (List.map it [h0_4]) ++ [[L.str h0_1], [L.str h0_2], [L.str (mk (qt (bl h0_8)))], [L.str (mk (qt (bl h0_3)))]])))
 none)
 none)))
 none)))
 (cond (sm (List.length (bl h0_8)))
 (both
 (both
 (dupN 1
 (cond (sm (List.length (bl h0_3)))
 (cond (sm 4 && Nat.ble (List.length (h3 ++ eSs (List.map it [h0_4]))) 100000000)
 (G (pline_q48 h0_0 h0_1 h0_2 h0_3 h0_4 h0_5 h0_6 h0_7 h0_8 h0_9 h0_10 h0_11 h0_12 h0_13 (h3 ++ eSs (List.map it [h0_4]) ++ [[L.str h0_1], [L.str h0_2], [L.str (mk (qt (bl h0_8)))], [L.str (mk (qt (bl h0_3)))]])))
 none)
 none))
 (both
 (dupN 1
 (cond (sm (List.length (bl h0_3)))
 (cond (sm 4 && Nat.ble (List.length (h3 ++ eSs (List.map it [h0_4]))) 100000000)
 (G (pline_q48 h0_0 h0_1 h0_2 h0_3 h0_4 h0_5 h0_6 h0_7 h0_8 h0_9 h0_10 h0_11 h0_12 h0_13 (h3 ++ eSs (List.map it [h0_4]) ++ [[L.str h0_1], [L.str h0_2], [L.str (mk (qt (bl h0_8)))], [L.str (mk (qt (bl h0_3)))]])))
 none)
 none))
 (cond (sm (List.length (bl h0_3)))
 (cond (sm 4 && Nat.ble (List.length (h3 ++ eSs (List.map it [h0_4]))) 100000000)
 (G (pline_q48 h0_0 h0_1 h0_2 h0_3 h0_4 h0_5 h0_6 h0_7 h0_8 h0_9 h0_10 h0_11 h0_12 h0_13 (h3 ++ eSs (List.map it [h0_4]) ++ [[L.str h0_1], [L.str h0_2], [L.str (mk (qt (bl h0_8)))], [L.str (mk (qt (bl h0_3)))]])))
 none)
 none)))
 (both
 (both
 (dupN 1
 (cond (sm (List.length (bl h0_3)))
 (cond (sm 4 && Nat.ble (List.length (h3 ++ eSs (List.map it [h0_4]))) 100000000)
 (G (pline_q48 h0_0 h0_1 h0_2 h0_3 h0_4 h0_5 h0_6 h0_7 h0_8 h0_9 h0_10 h0_11 h0_12 h0_13 (h3 ++ eSs (List.map it [h0_4]) ++ [[L.str h0_1], [L.str h0_2], [L.str (mk (qt (bl h0_8)))], [L.str (mk (qt (bl h0_3)))]])))
 none)
 none))
 (both
 (dupN 1
 (cond (sm (List.length (bl h0_3)))
 (cond (sm 4 && Nat.ble (List.length (h3 ++ eSs (List.map it [h0_4]))) 100000000)
 (G (pline_q48 h0_0 h0_1 h0_2 h0_3 h0_4 h0_5 h0_6 h0_7 h0_8 h0_9 h0_10 h0_11 h0_12 h0_13 (h3 ++ eSs (List.map it [h0_4]) ++ [[L.str h0_1], [L.str h0_2], [L.str (mk (qt (bl h0_8)))], [L.str (mk (qt (bl h0_3)))]])))
 none)
 none))
 (cond (sm (List.length (bl h0_3)))
 (cond (sm 4 && Nat.ble (List.length (h3 ++ eSs (List.map it [h0_4]))) 100000000)
 (G (pline_q48 h0_0 h0_1 h0_2 h0_3 h0_4 h0_5 h0_6 h0_7 h0_8 h0_9 h0_10 h0_11 h0_12 h0_13 (h3 ++ eSs (List.map it [h0_4]) ++ [[L.str h0_1], [L.str h0_2], [L.str (mk (qt (bl h0_8)))], [L.str (mk (qt (bl h0_3)))]])))
 none)
 none)))
 (both
 (both
 (dupN 1
 (cond (sm (List.length (bl h0_3)))
 (cond (sm 4 && Nat.ble (List.length (h3 ++ eSs (List.map it [h0_4]))) 100000000)
 (G (pline_q48 h0_0 h0_1 h0_2 h0_3 h0_4 h0_5 h0_6 h0_7 h0_8 h0_9 h0_10 h0_11 h0_12 h0_13 (h3 ++ eSs (List.map it [h0_4]) ++ [[L.str h0_1], [L.str h0_2], [L.str (mk (qt (bl h0_8)))], [L.str (mk (qt (bl h0_3)))]])))
 none)
 none))
 (both
 (dupN 1
 (cond (sm (List.length (bl h0_3)))
 (cond (sm 4 && Nat.ble (List.length (h3 ++ eSs (List.map it [h0_4]))) 100000000)
 (G (pline_q48 h0_0 h0_1 h0_2 h0_3 h0_4 h0_5 h0_6 h0_7 h0_8 h0_9 h0_10 h0_11 h0_12 h0_13 (h3 ++ eSs (List.map it [h0_4]) ++ [[L.str h0_1], [L.str h0_2], [L.str (mk (qt (bl h0_8)))], [L.str (mk (qt (bl h0_3)))]])))
 none)
 none))
 (cond (sm (List.length (bl h0_3)))
 (cond (sm 4 && Nat.ble (List.length (h3 ++ eSs (List.map it [h0_4]))) 100000000)
 (G (pline_q48 h0_0 h0_1 h0_2 h0_3 h0_4 h0_5 h0_6 h0_7 h0_8 h0_9 h0_10 h0_11 h0_12 h0_13 (h3 ++ eSs (List.map it [h0_4]) ++ [[L.str h0_1], [L.str h0_2], [L.str (mk (qt (bl h0_8)))], [L.str (mk (qt (bl h0_3)))]])))
 none)
 none)))
 (cond (sm (List.length (bl h0_3)))
 (cond (sm 4 && Nat.ble (List.length (h3 ++ eSs (List.map it [h0_4]))) 100000000)
 (G (pline_q48 h0_0 h0_1 h0_2 h0_3 h0_4 h0_5 h0_6 h0_7 h0_8 h0_9 h0_10 h0_11 h0_12 h0_13 (h3 ++ eSs (List.map it [h0_4]) ++ [[L.str h0_1], [L.str h0_2], [L.str (mk (qt (bl h0_8)))], [L.str (mk (qt (bl h0_3)))]])))
 none)
 none))))
 none))))))))
 none)
 (cond (h0_0 == 22)
 (cond (sm 1 && Nat.ble (List.length h3) 100000000)
 (G (pline_q48 h0_0 h0_1 h0_2 h0_3 h0_4 h0_5 h0_6 h0_7 h0_8 h0_9 h0_10 h0_11 h0_12 h0_13 (h3 ++ [[L.str h0_1]])))
 none)
 (cond (h0_0 == 5)
 (cond (sm 1 && Nat.ble (List.length h3) 100000000)
 (G (pline_q48 h0_0 h0_1 h0_2 h0_3 h0_4 h0_5 h0_6 h0_7 h0_8 h0_9 h0_10 h0_11 h0_12 h0_13 (h3 ++ [[L.str h0_1]])))
 none)
 (cond (h0_0 == 20)
 (cond (sm 1 && Nat.ble (List.length h3) 100000000)
 (G (pline_q48 h0_0 h0_1 h0_2 h0_3 h0_4 h0_5 h0_6 h0_7 h0_8 h0_9 h0_10 h0_11 h0_12 h0_13 (h3 ++ [[L.str h0_1]])))
 none)
 (cond (h0_0 == 2)
 (cond (sm 3 && Nat.ble (List.length h3) 100000000)
 (G (pline_q48 h0_0 h0_1 h0_2 h0_3 h0_4 h0_5 h0_6 h0_7 h0_8 h0_9 h0_10 h0_11 h0_12 h0_13 (h3 ++ [[L.str h0_1], [L.str h0_2], [L.str h0_3]])))
 none)
 (cond (h0_0 == 4)
 (cond (sm 3 && Nat.ble (List.length h3) 100000000)
 (cond (i64B h0_4 && Nat.ble (List.length (h3 ++ [[L.str h0_1], [L.str h0_2], [L.str h0_3]])) 10000000)
 (G (pline_q48 h0_0 h0_1 h0_2 h0_3 h0_4 h0_5 h0_6 h0_7 h0_8 h0_9 h0_10 h0_11 h0_12 h0_13 (h3 ++ [[L.str h0_1], [L.str h0_2], [L.str h0_3]] ++ eSs (List.map it [h0_4]))))
 none)
 none)
 (cond (h0_0 == 3)
 (cond (sm 2 && Nat.ble (List.length h3) 100000000)
 (G (pline_q48 h0_0 h0_1 h0_2 h0_3 h0_4 h0_5 h0_6 h0_7 h0_8 h0_9 h0_10 h0_11 h0_12 h0_13 (h3 ++ [[L.str h0_1], [L.str h0_2]])))
 none)
 (cond (h0_0 == 6)
 (cond (i64B h0_5 && Nat.ble (List.length h3) 10000000)
 (G (pline_q48 h0_0 h0_1 h0_2 h0_3 h0_4 h0_5 h0_6 h0_7 h0_8 h0_9 h0_10 h0_11 h0_12 h0_13 (h3 ++ eSs (List.map it [h0_5]))))
 none)
 (cond (h0_0 == 11)
 (cond (i64B h0_5 && Nat.ble (List.length h3) 10000000)
 (G (pline_q48 h0_0 h0_1 h0_2 h0_3 h0_4 h0_5 h0_6 h0_7 h0_8 h0_9 h0_10 h0_11 h0_12 h0_13 (h3 ++ eSs (List.map it [h0_5]))))
 none)
 (cond (h0_0 == 14)
 (cond (i64B h0_5 && Nat.ble (List.length h3) 10000000)
 (G (pline_q48 h0_0 h0_1 h0_2 h0_3 h0_4 h0_5 h0_6 h0_7 h0_8 h0_9 h0_10 h0_11 h0_12 h0_13 (h3 ++ eSs (List.map it [h0_5]))))
 none)
 (cond (h0_0 == 15)
 (cond (i64B h0_5 && i64B h0_6 && Nat.ble (List.length h3) 10000000)
 (G (pline_q48 h0_0 h0_1 h0_2 h0_3 h0_4 h0_5 h0_6 h0_7 h0_8 h0_9 h0_10 h0_11 h0_12 h0_13 (h3 ++ eSs (List.map it [h0_5, h0_6]))))
 none)
 (cond (h0_0 == 17)
 (cond (i64B h0_5 && i64B h0_6 && Nat.ble (List.length h3) 10000000)
 (G (pline_q48 h0_0 h0_1 h0_2 h0_3 h0_4 h0_5 h0_6 h0_7 h0_8 h0_9 h0_10 h0_11 h0_12 h0_13 (h3 ++ eSs (List.map it [h0_5, h0_6]))))
 none)
 (cond (h0_0 == 18)
 (cond (i64B h0_5 && i64B h0_6 && Nat.ble (List.length h3) 10000000)
 (G (pline_q48 h0_0 h0_1 h0_2 h0_3 h0_4 h0_5 h0_6 h0_7 h0_8 h0_9 h0_10 h0_11 h0_12 h0_13 (h3 ++ eSs (List.map it [h0_5, h0_6]))))
 none)
 (cond (h0_0 == 16)
 (cond (i64B h0_5 && (i64B h0_6 && i64B h0_7) && Nat.ble (List.length h3) 10000000)
 (G (pline_q48 h0_0 h0_1 h0_2 h0_3 h0_4 h0_5 h0_6 h0_7 h0_8 h0_9 h0_10 h0_11 h0_12 h0_13 (h3 ++ eSs (List.map it [h0_5, h0_6, h0_7]))))
 none)
 (cond (h0_0 == 19)
 (cond (i64B h0_5 && (i64B h0_6 && i64B h0_7) && Nat.ble (List.length h3) 10000000)
 (G (pline_q48 h0_0 h0_1 h0_2 h0_3 h0_4 h0_5 h0_6 h0_7 h0_8 h0_9 h0_10 h0_11 h0_12 h0_13 (h3 ++ eSs (List.map it [h0_5, h0_6, h0_7]))))
 none)
 (G (pline_q48 h0_0 h0_1 h0_2 h0_3 h0_4 h0_5 h0_6 h0_7 h0_8 h0_9 h0_10 h0_11 h0_12 h0_13 h3)))))))))))))))))))))))
 (anyOf h2l fun en lf =>
 (cond (Prod.snd en == h0_0)
 (cond (roomN (List.length h3 + 1) 16)
 (G (pline_q3 h0_0 h0_1 h0_2 h0_3 h0_4 h0_5 h0_6 h0_7 h0_8 h0_9 h0_10 h0_11 h0_12 h0_13 h2m lf (some en) (h3 ++ [[L.str (Prod.fst en)]])))
 none)
 (G (pline_q3 h0_0 h0_1 h0_2 h0_3 h0_4 h0_5 h0_6 h0_7 h0_8 h0_9 h0_10 h0_11 h0_12 h0_13 h2m lf (some en) h3))))) := by kernel_rfl
theorem pline_p48 (G : Req → R) (h0_0 : Int) (h0_1 : ByteArray) (h0_2 : ByteArray) (h0_3 : ByteArray) (h0_4 : Int) (h0_5 : Int) (h0_6 : Int) (h0_7 : Int) (h0_8 : ByteArray) (h0_9 : ByteArray) (h0_10 : List (List L)) (h0_11 : List (List L)) (h0_12 : List (List L)) (h0_13 : List (List L)) (h2 : List (List L)) : runB (cfg [k_commands, k_add, k_num, k_listed, k_pquote, k_Join, k_pevent, k_Cont, k_psame]) G (pline_q48 h0_0 h0_1 h0_2 h0_3 h0_4 h0_5 h0_6 h0_7 h0_8 h0_9 h0_10 h0_11 h0_12 h0_13 h2) =
 (cond (Nat.ble (List.length h2) 1000000 && (Nat.ble (List.length (jn (dSs h2))) 100000000 && true))
 (cond (sm (ByteArray.size (mk (jn (dSs h2)))))
 (cond (Prod.snd (evL pOps (bl (mk (jn (dSs h2))))) != 0)
 (some [(.str (mk [])), (.int IntKind.i64 (1))])
 (cond (Nat.ble (ByteArray.size (mk (jn (dSs h2)))) 1000000000 && true)
 (cond (List.contains (bl (mk (jn (dSs h2)))) 10)
 (some [(.str (mk [])), (.int IntKind.i64 (1))])
 (cond (isLs (eIs (Ev.users (Prod.fst (evL pOps (bl (mk (jn (dSs h2)))))))) (eSs (Ev.groups (Prod.fst (evL pOps (bl (mk (jn (dSs h2)))))))) (eRs (Ev.rules (Prod.fst (evL pOps (bl (mk (jn (dSs h2)))))))) (eWs (Ev.writes (Prod.fst (evL pOps (bl (mk (jn (dSs h2)))))))) && (isLs h0_10 h0_11 h0_12 h0_13 && smE (Ev.mk h0_0 (bl h0_1) (bl h0_2) (bl h0_3) h0_4 h0_5 h0_6 h0_7 (bl h0_8) (bl h0_9) (dIs h0_10) (dSs h0_11) (dRs h0_12) (dWs h0_13))))
 (cond (!decide (Ev.mk (Ev.kind (Prod.fst (evL pOps (bl (mk (jn (dSs h2))))))) (bl (mk (Ev.repo (Prod.fst (evL pOps (bl (mk (jn (dSs h2))))))))) (bl (mk (Ev.name (Prod.fst (evL pOps (bl (mk (jn (dSs h2))))))))) (bl (mk (Ev.other (Prod.fst (evL pOps (bl (mk (jn (dSs h2))))))))) (Ev.who (Prod.fst (evL pOps (bl (mk (jn (dSs h2))))))) (Ev.n (Prod.fst (evL pOps (bl (mk (jn (dSs h2))))))) (Ev.m (Prod.fst (evL pOps (bl (mk (jn (dSs h2))))))) (Ev.k (Prod.fst (evL pOps (bl (mk (jn (dSs h2))))))) (bl (mk (Ev.text (Prod.fst (evL pOps (bl (mk (jn (dSs h2))))))))) (bl (mk (Ev.gname (Prod.fst (evL pOps (bl (mk (jn (dSs h2))))))))) (dIs (eIs (Ev.users (Prod.fst (evL pOps (bl (mk (jn (dSs h2))))))))) (dSs (eSs (Ev.groups (Prod.fst (evL pOps (bl (mk (jn (dSs h2))))))))) (dRs (eRs (Ev.rules (Prod.fst (evL pOps (bl (mk (jn (dSs h2))))))))) (dWs (eWs (Ev.writes (Prod.fst (evL pOps (bl (mk (jn (dSs h2))))))))) = Ev.mk h0_0 (bl h0_1) (bl h0_2) (bl h0_3) h0_4 h0_5 h0_6 h0_7 (bl h0_8) (bl h0_9) (dIs h0_10) (dSs h0_11) (dRs h0_12) (dWs h0_13)))
 (some [(.str (mk [])), (.int IntKind.i64 (1))])
 (cond (ltI 8000 (↑(ByteArray.size (mk (jn (dSs h2)))) : Int))
 (some [(.str (mk [])), (.int IntKind.i64 (1))])
 (some [(.str (mk (jn (dSs h2)))), (.int IntKind.i64 (0))])))
 none))
 none))
 none)
 none) := by kernel_rfl

end Go.Ab
namespace Go.Ab
open Go.Proofs
theorem padd_e (G : Req → R) (xs : List (List L)) (ls : List (List L)) : runB (cfg []) G (.enter 29 [(.lf (.lst 9 xs)), (.lf (.ptr 0 0))] [(.box [(.sl 9)] [(.row (1))]), (.row 9 ls true)]) =
 (cond (roomN (List.length ls + List.length xs) 16)
 (some [(.lst 9 (ls ++ xs))])
 none) := by kernel_rfl

theorem pnum1_e (G : Req → R) (a : Int) (ls : List (List L)) : runB (cfg [k_add, k_Itoa]) G (.enter 30 [(.lf (.lst 3 [[(.int IntKind.i64 (a))]])), (.lf (.ptr 0 0))] [(.box [.oth] [(.clo 29 [(.ptr 1 0)])]), (.box [(.sl 9)] [(.row (2))]), (.row 9 ls true)]) =
 (dupN 1
 (cond (i64B a)
 (cond (sm 1 && Nat.ble (List.length ls) 100000000)
 (some [.any, (.lst 9 (ls ++ [[L.str (mk (it a))]]))])
 none)
 none)) := by kernel_rfl

theorem pnum2_e (G : Req → R) (a : Int) (b : Int) (ls : List (List L)) : runB (cfg [k_add, k_Itoa]) G (.enter 30 [(.lf (.lst 3 [[(.int IntKind.i64 (a))], [(.int IntKind.i64 (b))]])), (.lf (.ptr 0 0))] [(.box [.oth] [(.clo 29 [(.ptr 1 0)])]), (.box [(.sl 9)] [(.row (2))]), (.row 9 ls true)]) =
 (dupN 1
 (cond (i64B a)
 (cond (sm 1 && Nat.ble (List.length ls) 100000000)
 (dupN 1
 (cond (i64B b)
 (cond (sm 1 && Nat.ble (List.length (ls ++ [[L.str (mk (it a))]])) 100000000)
 (some [.any, (.lst 9 (ls ++ [[L.str (mk (it a))]] ++ [[L.str (mk (it b))]]))])
 none)
 none))
 none)
 none)) := by kernel_rfl

theorem pnum3_e (G : Req → R) (a : Int) (b : Int) (c : Int) (ls : List (List L)) : runB (cfg [k_add, k_Itoa]) G (.enter 30 [(.lf (.lst 3 [[(.int IntKind.i64 (a))], [(.int IntKind.i64 (b))], [(.int IntKind.i64 (c))]])), (.lf (.ptr 0 0))] [(.box [.oth] [(.clo 29 [(.ptr 1 0)])]), (.box [(.sl 9)] [(.row (2))]), (.row 9 ls true)]) =
 (dupN 1
 (cond (i64B a)
 (cond (sm 1 && Nat.ble (List.length ls) 100000000)
 (dupN 1
 (cond (i64B b)
 (cond (sm 1 && Nat.ble (List.length (ls ++ [[L.str (mk (it a))]])) 100000000)
 (dupN 1
 (cond (i64B c)
 (cond (sm 1 && Nat.ble (List.length (ls ++ [[L.str (mk (it a))]] ++ [[L.str (mk (it b))]])) 100000000)
 (some [.any, (.lst 9 (ls ++ [[L.str (mk (it a))]] ++ [[L.str (mk (it b))]] ++ [[L.str (mk (it c))]]))])
 none)
 none))
 none)
 none))
 none)
 none)) := by kernel_rfl

end Go.Ab
namespace Go.Ab
open Go.Proofs
noncomputable def listed_q16 (x56 : List (List L)) (x57 : Int) (x58 : Int) (h3 : List (List L)) : Req := .point 31 [(.box [(.sl 9)] [.any]), (.box [.oth] [(.clo 29 [(.ptr 0 0)])]), .no] (todoAt Tryz.prog 31 16) ⟨[an, (.lf (.clo 29 [(.ptr 0 0)])), an, an, an, an, an, an, an, an, an, an, an, an, an, an, an, an, an, an, an, an, an, an, an, an, an, an, an, an, an, an, an, an, an, an, an, an, an, an, an, an, an, an, an, an, an, an, an, an, an, an, an, an, an, an, (.lf (.lst 51 x56)), (.lf (.int IntKind.i64 x57)), (.lf (.int IntKind.i64 x58)), an, an, an, an, an, an, an, an, an, an, an, an, an, an, an, an, an, an, an, an, an, an, an, an, an, an, an, an, an, an, an, an, an, an, an, an, an, an, an, an, an, an, an, an, an, an, an, an, an, an, an, an, an, an, an, an], [(.box [(.sl 9)] [(.row 3)]), (.box [.oth] [(.clo 29 [(.ptr 0 0)])]), .dead, (.row 9 h3 true)]⟩
noncomputable def listed_q25 (x88 : List (List L)) (x89 : Int) (x90 : Int) (h3_0 : Int) (h3_1 : ByteArray) (h3_2 : ByteArray) (h3_3 : ByteArray) (h3_4 : Int) (h3_5 : Int) (h3_6 : Int) (h3_7 : Int) (h3_8 : ByteArray) (h3_9 : ByteArray) (h3_10 : List (List L)) (h3_11 : List (List L)) (h3_12 : List (List L)) (h3_13 : List (List L)) (h4 : List (List L)) : Req := .point 31 [(.box [(.sl 9)] [.any]), (.box [.oth] [(.clo 29 [(.ptr 0 0)])]), .no] (todoAt Tryz.prog 31 25) ⟨[an, (.lf (.clo 29 [(.ptr 0 0)])), (.lf (.clo 30 [(.ptr 1 0)])), (.lf (.ptr 3 0)), an, an, an, an, an, an, an, an, an, an, an, an, an, an, an, an, an, an, an, an, an, an, an, an, an, an, an, an, an, an, an, an, an, an, an, an, an, an, an, an, an, an, an, an, an, an, an, an, an, an, an, an, an, an, an, an, an, an, an, an, an, an, an, an, an, an, an, an, an, an, an, an, an, an, an, an, an, an, an, an, an, an, an, an, (.lf (.lst 3 x88)), (.lf (.int IntKind.i64 x89)), (.lf (.int IntKind.i64 x90)), an, an, an, an, an, an, an, an, an, an, an, an, an, an, an, an, an, an, an, an, an, an, an, an], [(.box [(.sl 9)] [(.row 4)]), (.box [.oth] [(.clo 29 [(.ptr 0 0)])]), .dead, (.box [(.int IntKind.i64), .str, .str, .str, (.int IntKind.i64), (.int IntKind.i64), (.int IntKind.i64), (.int IntKind.i64), .str, .str, (.sl 3), (.sl 9), (.sl 65), (.sl 51)] [(.int IntKind.i64 h3_0), (.str h3_1), (.str h3_2), (.str h3_3), (.int IntKind.i64 h3_4), (.int IntKind.i64 h3_5), (.int IntKind.i64 h3_6), (.int IntKind.i64 h3_7), (.str h3_8), (.str h3_9), (.lst 3 h3_10), (.lst 9 h3_11), (.lst 65 h3_12), (.lst 51 h3_13)]), (.row 9 h4 true)]⟩
noncomputable def listed_q11 (x19 : List (List L)) (x20 : Int) (x21 : Int) (h3 : List (List L)) : Req := .point 31 [(.box [(.sl 9)] [.any]), (.box [.oth] [(.clo 29 [(.ptr 0 0)])]), .no] (todoAt Tryz.prog 31 11) ⟨[an, (.lf (.clo 29 [(.ptr 0 0)])), an, an, an, an, an, an, an, an, an, an, an, an, an, an, an, an, an, (.lf (.lst 65 x19)), (.lf (.int IntKind.i64 x20)), (.lf (.int IntKind.i64 x21)), an, an, an, an, an, an, an, an, an, an, an, an, an, an, an, an, an, an, an, an, an, an, an, an, an, an, an, an, an, an, an, an, an, an, an, an, an, an, an, an, an, an, an, an, an, an, an, an, an, an, an, an, an, an, an, an, an, an, an, an, an, an, an, an, an, an, an, an, an, an, an, an, an, an, an, an, an, an, an, an, an, an, an, an, an, an, an, an, an, an, an, an, an], [(.box [(.sl 9)] [(.row 3)]), (.box [.oth] [(.clo 29 [(.ptr 0 0)])]), .dead, (.row 9 h3 true)]⟩
noncomputable def listed_q31 (x104 : List (List L)) (x105 : Int) (x106 : Int) (h3 : List (List L)) : Req := .point 31 [(.box [(.sl 9)] [.any]), (.box [.oth] [(.clo 29 [(.ptr 0 0)])]), .no] (todoAt Tryz.prog 31 31) ⟨[an, (.lf (.clo 29 [(.ptr 0 0)])), an, an, an, an, an, an, an, an, an, an, an, an, an, an, an, an, an, an, an, an, an, an, an, an, an, an, an, an, an, an, an, an, an, an, an, an, an, an, an, an, an, an, an, an, an, an, an, an, an, an, an, an, an, an, an, an, an, an, an, an, an, an, an, an, an, an, an, an, an, an, an, an, an, an, an, an, an, an, an, an, an, an, an, an, an, an, an, an, an, an, an, an, an, an, an, an, an, an, an, an, an, an, (.lf (.lst 9 x104)), (.lf (.int IntKind.i64 x105)), (.lf (.int IntKind.i64 x106)), an, an, an, an, an, an, an, an], [(.box [(.sl 9)] [(.row 3)]), (.box [.oth] [(.clo 29 [(.ptr 0 0)])]), .dead, (.row 9 h3 true)]⟩
theorem listed_e (G : Req → R) (k : Int) (a1 : ByteArray) (a2 : ByteArray) (a3 : ByteArray) (a4 : Int) (a5 : Int) (a6 : Int) (a7 : Int) (a8 : ByteArray) (a9 : ByteArray) (us : List (List L)) (gs : List (List L)) (rs : List (List L)) (ws : List (List L)) (ls : List (List L)) : runB (cfg [k_add, k_num, k_pquote]) G (.enter 31 [(.agg [(.int IntKind.i64 (k)), (.str (a1)), (.str (a2)), (.str (a3)), (.int IntKind.i64 (a4)), (.int IntKind.i64 (a5)), (.int IntKind.i64 (a6)), (.int IntKind.i64 (a7)), (.str (a8)), (.str (a9)), (.lst 3 us), (.lst 9 gs), (.lst 65 rs), (.lst 51 ws)]), (.lf (.clo 29 [(.ptr 0 0)])), (.lf (.clo 30 [(.ptr 1 0)]))] [(.box [(.sl 9)] [(.row (2))]), (.box [.oth] [(.clo 29 [(.ptr 0 0)])]), (.row 9 ls true)]) =
 (cond (k == 1)
 (cond (sm 2 && Nat.ble (List.length ls) 100000000)
 (cond (i64B a4 && Nat.ble (List.length (ls ++ [[L.str a1], [L.str a2]])) 10000000)
 (G (listed_q16 ws ((↑(List.length ws) : Int)) 0 (ls ++ [[L.str a1], [L.str a2]] ++ eSs (List.map it [a4]))))
 none)
 none)
 (cond (k == 7)
 (cond (sm 1 && Nat.ble (List.length ls) 100000000)
 (G (listed_q25 us ((↑(List.length us) : Int)) 0 k a1 a2 a3 a4 a5 a6 a7 a8 a9 us gs rs ws (ls ++ [[L.str a9]])))
 none)
 (cond (ltI 0 (↑(List.length rs) : Int))
 (cond (ltI 0 (↑(List.length rs) : Int))
 (cond (cO 0 (atL rs 0))
 (cond (bl (cT 2 (atL rs 0)) == bl (mk []))
 (cond (sm 4 && Nat.ble (List.length ls) 100000000)
 (G (listed_q11 rs ((↑(List.length rs) : Int)) 0 (ls ++ [[L.str (mk [97, 108, 108, 111, 119])], [L.str (cT 1 (atL rs 0))], [L.str (mk [45])], [L.str (cT 3 (atL rs 0))]])))
 none)
 (cond (sm 4 && Nat.ble (List.length ls) 100000000)
 (G (listed_q11 rs ((↑(List.length rs) : Int)) 0 (ls ++ [[L.str (mk [97, 108, 108, 111, 119])], [L.str (cT 1 (atL rs 0))], [L.str (cT 2 (atL rs 0))], [L.str (cT 3 (atL rs 0))]])))
 none))
 (cond (bl (cT 2 (atL rs 0)) == bl (mk []))
 (cond (sm 4 && Nat.ble (List.length ls) 100000000)
 (G (listed_q11 rs ((↑(List.length rs) : Int)) 0 (ls ++ [[L.str (mk [100, 101, 110, 121])], [L.str (cT 1 (atL rs 0))], [L.str (mk [45])], [L.str (cT 3 (atL rs 0))]])))
 none)
 (cond (sm 4 && Nat.ble (List.length ls) 100000000)
 (G (listed_q11 rs ((↑(List.length rs) : Int)) 0 (ls ++ [[L.str (mk [100, 101, 110, 121])], [L.str (cT 1 (atL rs 0))], [L.str (cT 2 (atL rs 0))], [L.str (cT 3 (atL rs 0))]])))
 none)))
 none)
 (some [(.lst 9 ls), .any])))) := by kernel_rfl
theorem listed_p16 (G : Req → R) (x56 : List (List L)) (x57 : Int) (x58 : Int) (h3 : List (List L)) : runB (cfg [k_add, k_num, k_pquote]) G (listed_q16 x56 x57 x58 h3) =
 (cond (ltI x58 x57)
 (cond (leI 0 x58 && ltI x58 (↑(List.length x56) : Int))
 (cond (cO 2 (atL x56 x58))
 (cond (sm 2 && Nat.ble (List.length h3) 100000000)
 (G (listed_q16 x56 x57 (wrapI IntKind.i64 (x58 + 1)) (h3 ++ [[L.str (mk [100, 101, 108])], [L.str (cT 0 (atL x56 x58))]])))
 none)
 (dupN 1
 (cond (sm (List.length (bl (cT 1 (atL x56 x58)))))
 (cond (sm 3 && Nat.ble (List.length h3) 100000000)
 (G (listed_q16 x56 x57 (wrapI IntKind.i64 (x58 + 1)) (h3 ++ [[L.str (mk [112, 117, 116])], [L.str (cT 0 (atL x56 x58))], [L.str (mk (qt (bl (cT 1 (atL x56 x58)))))]])))
 none)
 none)))
 none)
 (some [(.lst 9 h3), .any])) := by kernel_rfl
theorem listed_p25 (G : Req → R) (x88 : List (List L)) (x89 : Int) (x90 : Int) (h3_0 : Int) (h3_1 : ByteArray) (h3_2 : ByteArray) (h3_3 : ByteArray) (h3_4 : Int) (h3_5 : Int) (h3_6 : Int) (h3_7 : Int) (h3_8 : ByteArray) (h3_9 : ByteArray) (h3_10 : List (List L)) (h3_11 : List (List L)) (h3_12 : List (List L)) (h3_13 : List (List L)) (h4 : List (List L)) : runB (cfg [k_add, k_num, k_pquote]) G (listed_q25 x88 x89 x90 h3_0 h3_1 h3_2 h3_3 h3_4 h3_5 h3_6 h3_7 h3_8 h3_9 h3_10 h3_11 h3_12 h3_13 h4) =
 (cond (ltI x90 x89)
 (cond (leI 0 x90 && ltI x90 (↑(List.length x88) : Int))
 (cond (Nat.ble (List.length h4) 100000000)
 (cond (i64B (cI 0 (atL x88 x90)) && Nat.ble (List.length (h4 ++ [[L.str (mk [117, 115, 101, 114])]])) 10000000)
 (G (listed_q25 x88 x89 (wrapI IntKind.i64 (x90 + 1)) h3_0 h3_1 h3_2 h3_3 h3_4 h3_5 h3_6 h3_7 h3_8 h3_9 h3_10 h3_11 h3_12 h3_13 (h4 ++ [[L.str (mk [117, 115, 101, 114])]] ++ eSs (List.map it [cI 0 (atL x88 x90)]))))
 none)
 none)
 none)
 (G (listed_q31 h3_11 ((↑(List.length h3_11) : Int)) 0 h4))) := by kernel_rfl
theorem listed_p11 (G : Req → R) (x19 : List (List L)) (x20 : Int) (x21 : Int) (h3 : List (List L)) : runB (cfg [k_add, k_num, k_pquote]) G (listed_q11 x19 x20 x21 h3) =
 (cond (ltI (wrapI IntKind.i64 (x21 + 1)) x20)
 (cond (leI 0 (wrapI IntKind.i64 (x21 + 1)) && ltI (wrapI IntKind.i64 (x21 + 1)) (↑(List.length x19) : Int))
 (cond (cO 0 (atL x19 (wrapI IntKind.i64 (x21 + 1))))
 (cond (bl (cT 2 (atL x19 (wrapI IntKind.i64 (x21 + 1)))) == bl (mk []))
 (cond (sm 4 && Nat.ble (List.length h3) 100000000)
 (G (listed_q11 x19 x20 (wrapI IntKind.i64 (x21 + 1)) (h3 ++ [[L.str (mk [97, 108, 108, 111, 119])], [L.str (cT 1 (atL x19 (wrapI IntKind.i64 (x21 + 1))))], [L.str (mk [45])], [L.str (cT 3 (atL x19 (wrapI IntKind.i64 (x21 + 1))))]])))
 none)
 (cond (sm 4 && Nat.ble (List.length h3) 100000000)
 (G (listed_q11 x19 x20 (wrapI IntKind.i64 (x21 + 1)) (h3 ++ [[L.str (mk [97, 108, 108, 111, 119])], [L.str (cT 1 (atL x19 (wrapI IntKind.i64 (x21 + 1))))], [L.str (cT 2 (atL x19 (wrapI IntKind.i64 (x21 + 1))))], [L.str (cT 3 (atL x19 (wrapI IntKind.i64 (x21 + 1))))]])))
 none))
 (cond (bl (cT 2 (atL x19 (wrapI IntKind.i64 (x21 + 1)))) == bl (mk []))
 (cond (sm 4 && Nat.ble (List.length h3) 100000000)
 (G (listed_q11 x19 x20 (wrapI IntKind.i64 (x21 + 1)) (h3 ++ [[L.str (mk [100, 101, 110, 121])], [L.str (cT 1 (atL x19 (wrapI IntKind.i64 (x21 + 1))))], [L.str (mk [45])], [L.str (cT 3 (atL x19 (wrapI IntKind.i64 (x21 + 1))))]])))
 none)
 (cond (sm 4 && Nat.ble (List.length h3) 100000000)
 (G (listed_q11 x19 x20 (wrapI IntKind.i64 (x21 + 1)) (h3 ++ [[L.str (mk [100, 101, 110, 121])], [L.str (cT 1 (atL x19 (wrapI IntKind.i64 (x21 + 1))))], [L.str (cT 2 (atL x19 (wrapI IntKind.i64 (x21 + 1))))], [L.str (cT 3 (atL x19 (wrapI IntKind.i64 (x21 + 1))))]])))
 none)))
 none)
 (some [(.lst 9 h3), .any])) := by kernel_rfl
theorem listed_p31 (G : Req → R) (x104 : List (List L)) (x105 : Int) (x106 : Int) (h3 : List (List L)) : runB (cfg [k_add, k_num, k_pquote]) G (listed_q31 x104 x105 x106 h3) =
 (cond (ltI x106 x105)
 (cond (leI 0 x106 && ltI x106 (↑(List.length x104) : Int))
 (cond (sm 2 && Nat.ble (List.length h3) 100000000)
 (G (listed_q31 x104 x105 (wrapI IntKind.i64 (x106 + 1)) (h3 ++ [[L.str (mk [103, 114, 111, 117, 112])], [L.str (cT 0 (atL x104 x106))]])))
 none)
 none)
 (some [(.lst 9 h3), .any])) := by kernel_rfl

end Go.Ab
namespace Go.Ab
open Go.Proofs
noncomputable def eqI_q4 (s10 : List (List L)) (s21 : List (List L)) (x12 : Int) (x13 : Int) : Req := .point 53 [] (todoAt Tryz.prog 53 4) ⟨[(.lf (.lst 3 s10)), (.lf (.lst 3 s21)), an, an, an, an, an, an, an, an, an, an, (.lf (.int IntKind.i64 x12)), (.lf (.int IntKind.i64 x13)), an, an, an, an, an, an, an, an, an, an, an, an], []⟩
theorem eqI_e (G : Req → R) (s10 : List (List L)) (s21 : List (List L)) : runB (cfg []) G (.enter 53 [(.lf (.lst 3 s10)), (.lf (.lst 3 s21))] []) =
 (cond ((↑(List.length s10) : Int) != (↑(List.length s21) : Int))
 (some [(.bool (false))])
 (G (eqI_q4 s10 s21 ((↑(List.length s10) : Int)) 0))) := by kernel_rfl
theorem eqI_p4 (G : Req → R) (s10 : List (List L)) (s21 : List (List L)) (x12 : Int) (x13 : Int) : runB (cfg []) G (eqI_q4 s10 s21 x12 x13) =
 (cond (ltI x13 x12)
 (cond (leI 0 x13 && ltI x13 (↑(List.length s10) : Int))
 (cond (leI 0 x13 && ltI x13 (↑(List.length s21) : Int))
 (cond (cI 0 (atL s10 x13) != cI 0 (atL s21 x13))
 (some [(.bool (false))])
 (G (eqI_q4 s10 s21 x12 (wrapI IntKind.i64 (x13 + 1)))))
 none)
 none)
 (some [(.bool (true))])) := by kernel_rfl

noncomputable def eqS_q4 (s10 : List (List L)) (s21 : List (List L)) (x12 : Int) (x13 : Int) : Req := .point 54 [] (todoAt Tryz.prog 54 4) ⟨[(.lf (.lst 9 s10)), (.lf (.lst 9 s21)), an, an, an, an, an, an, an, an, an, an, (.lf (.int IntKind.i64 x12)), (.lf (.int IntKind.i64 x13)), an, an, an, an, an, an, an, an, an, an, an, an], []⟩
theorem eqS_e (G : Req → R) (s10 : List (List L)) (s21 : List (List L)) : runB (cfg []) G (.enter 54 [(.lf (.lst 9 s10)), (.lf (.lst 9 s21))] []) =
 (cond ((↑(List.length s10) : Int) != (↑(List.length s21) : Int))
 (some [(.bool (false))])
 (G (eqS_q4 s10 s21 ((↑(List.length s10) : Int)) 0))) := by kernel_rfl
theorem eqS_p4 (G : Req → R) (s10 : List (List L)) (s21 : List (List L)) (x12 : Int) (x13 : Int) : runB (cfg []) G (eqS_q4 s10 s21 x12 x13) =
 (cond (ltI x13 x12)
 (cond (leI 0 x13 && ltI x13 (↑(List.length s10) : Int))
 (cond (leI 0 x13 && ltI x13 (↑(List.length s21) : Int))
 (cond (!bl (cT 0 (atL s10 x13)) == bl (cT 0 (atL s21 x13)))
 (some [(.bool (false))])
 (G (eqS_q4 s10 s21 x12 (wrapI IntKind.i64 (x13 + 1)))))
 none)
 none)
 (some [(.bool (true))])) := by kernel_rfl

noncomputable def eqR_q4 (s10 : List (List L)) (s21 : List (List L)) (x12 : Int) (x13 : Int) : Req := .point 55 [] (todoAt Tryz.prog 55 4) ⟨[(.lf (.lst 65 s10)), (.lf (.lst 65 s21)), an, an, an, an, an, an, an, an, an, an, (.lf (.int IntKind.i64 x12)), (.lf (.int IntKind.i64 x13)), an, an, an, an, an, an, an, an, an, an, an, an], []⟩
theorem eqR_e (G : Req → R) (s10 : List (List L)) (s21 : List (List L)) : runB (cfg []) G (.enter 55 [(.lf (.lst 65 s10)), (.lf (.lst 65 s21))] []) =
 (cond ((↑(List.length s10) : Int) != (↑(List.length s21) : Int))
 (some [(.bool (false))])
 (G (eqR_q4 s10 s21 ((↑(List.length s10) : Int)) 0))) := by kernel_rfl
theorem eqR_p4 (G : Req → R) (s10 : List (List L)) (s21 : List (List L)) (x12 : Int) (x13 : Int) : runB (cfg []) G (eqR_q4 s10 s21 x12 x13) =
 (cond (ltI x13 x12)
 (cond (leI 0 x13 && ltI x13 (↑(List.length s10) : Int))
 (cond (leI 0 x13 && ltI x13 (↑(List.length s21) : Int))
 (cond (!(cO 0 (atL s10 x13) == cO 0 (atL s21 x13) && (bl (cT 1 (atL s10 x13)) == bl (cT 1 (atL s21 x13)) && (bl (cT 2 (atL s10 x13)) == bl (cT 2 (atL s21 x13)) && (bl (cT 3 (atL s10 x13)) == bl (cT 3 (atL s21 x13)) && true)))))
 (some [(.bool (false))])
 (G (eqR_q4 s10 s21 x12 (wrapI IntKind.i64 (x13 + 1)))))
 none)
 none)
 (some [(.bool (true))])) := by kernel_rfl

noncomputable def eqW_q4 (s10 : List (List L)) (s21 : List (List L)) (x12 : Int) (x13 : Int) : Req := .point 56 [] (todoAt Tryz.prog 56 4) ⟨[(.lf (.lst 51 s10)), (.lf (.lst 51 s21)), an, an, an, an, an, an, an, an, an, an, (.lf (.int IntKind.i64 x12)), (.lf (.int IntKind.i64 x13)), an, an, an, an, an, an, an, an, an, an, an, an], []⟩
theorem eqW_e (G : Req → R) (s10 : List (List L)) (s21 : List (List L)) : runB (cfg []) G (.enter 56 [(.lf (.lst 51 s10)), (.lf (.lst 51 s21))] []) =
 (cond ((↑(List.length s10) : Int) != (↑(List.length s21) : Int))
 (some [(.bool (false))])
 (G (eqW_q4 s10 s21 ((↑(List.length s10) : Int)) 0))) := by kernel_rfl
theorem eqW_p4 (G : Req → R) (s10 : List (List L)) (s21 : List (List L)) (x12 : Int) (x13 : Int) : runB (cfg []) G (eqW_q4 s10 s21 x12 x13) =
 (cond (ltI x13 x12)
 (cond (leI 0 x13 && ltI x13 (↑(List.length s10) : Int))
 (cond (leI 0 x13 && ltI x13 (↑(List.length s21) : Int))
 (cond (!(bl (cT 0 (atL s10 x13)) == bl (cT 0 (atL s21 x13)) && (bl (cT 1 (atL s10 x13)) == bl (cT 1 (atL s21 x13)) && (cO 2 (atL s10 x13) == cO 2 (atL s21 x13) && true))))
 (some [(.bool (false))])
 (G (eqW_q4 s10 s21 x12 (wrapI IntKind.i64 (x13 + 1)))))
 none)
 none)
 (some [(.bool (true))])) := by kernel_rfl

theorem psame_e (G : Req → R) (a0_0 : Int) (a0_1 : ByteArray) (a0_2 : ByteArray) (a0_3 : ByteArray) (a0_4 : Int) (a0_5 : Int) (a0_6 : Int) (a0_7 : Int) (a0_8 : ByteArray) (a0_9_0 : ByteArray) (a0_9_1 : List (List L)) (a0_9_2 : List (List L)) (a0_10 : List (List L)) (a0_11 : List (List L)) (b1_0 : Int) (b1_1 : ByteArray) (b1_2 : ByteArray) (b1_3 : ByteArray) (b1_4 : Int) (b1_5 : Int) (b1_6 : Int) (b1_7 : Int) (b1_8 : ByteArray) (b1_9_0 : ByteArray) (b1_9_1 : List (List L)) (b1_9_2 : List (List L)) (b1_10 : List (List L)) (b1_11 : List (List L)) : runB (cfg [k_eqI, k_eqS, k_eqR, k_eqW]) G (.enter 34 [(.agg [(.int IntKind.i64 (a0_0)), (.str (a0_1)), (.str (a0_2)), (.str (a0_3)), (.int IntKind.i64 (a0_4)), (.int IntKind.i64 (a0_5)), (.int IntKind.i64 (a0_6)), (.int IntKind.i64 (a0_7)), (.str (a0_8)), (.str (a0_9_0)), (.lst 3 a0_9_1), (.lst 9 a0_9_2), (.lst 65 a0_10), (.lst 51 a0_11)]), (.agg [(.int IntKind.i64 (b1_0)), (.str (b1_1)), (.str (b1_2)), (.str (b1_3)), (.int IntKind.i64 (b1_4)), (.int IntKind.i64 (b1_5)), (.int IntKind.i64 (b1_6)), (.int IntKind.i64 (b1_7)), (.str (b1_8)), (.str (b1_9_0)), (.lst 3 b1_9_1), (.lst 9 b1_9_2), (.lst 65 b1_10), (.lst 51 b1_11)])] []) =
 (cond (a0_0 == b1_0)
 (cond (bl a0_1 == bl b1_1)
 (cond (bl a0_2 == bl b1_2)
 (cond (bl a0_3 == bl b1_3)
 (cond (a0_4 == b1_4)
 (cond (a0_5 == b1_5)
 (cond (a0_6 == b1_6)
 (cond (a0_7 == b1_7)
 (cond (bl a0_8 == bl b1_8)
 (cond (bl a0_9_0 == bl b1_9_0)
 (cond (isLs a0_9_1 [] [] [] && (isLs b1_9_1 [] [] [] && sm (List.length b1_9_1)))
 (cond (decide (dIs a0_9_1 = dIs b1_9_1))
 (cond (isLs [] a0_9_2 [] [] && (isLs [] b1_9_2 [] [] && sm (List.length b1_9_2)))
 (cond (decide (dSs a0_9_2 = dSs b1_9_2))
 (cond (isLs [] [] a0_10 [] && (isLs [] [] b1_10 [] && sm (List.length b1_10)))
 (cond (decide (dRs a0_10 = dRs b1_10))
 (cond (isLs [] [] [] a0_11 && (isLs [] [] [] b1_11 && sm (List.length b1_11)))
 (some [(.bool (decide (dWs a0_11 = dWs b1_11)))])
 none)
 (some [(.bool (false))]))
 none)
 (some [(.bool (false))]))
 none)
 (some [(.bool (false))]))
 none)
 (some [(.bool (false))]))
 (some [(.bool (false))]))
 (some [(.bool (false))]))
 (some [(.bool (false))]))
 (some [(.bool (false))]))
 (some [(.bool (false))]))
 (some [(.bool (false))]))
 (some [(.bool (false))]))
 (some [(.bool (false))]))
 (some [(.bool (false))])) := by kernel_rfl

noncomputable def rsame_q6 (i5 : Int) (h0_0 : Int) (h0_1 : ByteArray) (h0_2 : ByteArray) (h0_3 : ByteArray) (h0_4 : Int) (h0_5 : Int) (h0_6 : Int) (h0_7 : Int) (h0_8 : ByteArray) (h0_9 : ByteArray) (h0_10 : List (List L)) (h0_11 : List (List L)) (h0_12 : List (List L)) (h0_13 : List (List L)) (h1_0 : Int) (h1_1 : ByteArray) (h1_2 : ByteArray) (h1_3 : ByteArray) (h1_4 : Int) (h1_5 : Int) (h1_6 : Int) (h1_7 : Int) (h1_8 : ByteArray) (h1_9 : ByteArray) (h1_10 : List (List L)) (h1_11 : List (List L)) (h1_12 : List (List L)) (h1_13 : List (List L)) : Req := .point 22 [] (todoAt Tryz.prog 22 6) ⟨[an, an, (.lf (.ptr 0 0)), (.lf (.ptr 1 0)), an, (.lf (.int IntKind.i64 i5)), an, an, an, an, an, an, an, an, an, an, an, an, an, an, an, an, an, an, an, an, an, an, an, an, an, an, an, an, an, an, an, an, an, an, an, an, an, an, an, an, an, an, an, an, an, an, an, an, an, an, an, an, an, an, an, an, an, an, an, an, an, an, an, an, an, an, an, an, an, an, an, an, an, an, an, an, an, an, an, an, an, an, an, an, an, an, an, an, an, an, an, an, an, an, an, an, an, an, an, an, an, an, an, an, an, an, an, an, an, an, an, an, an, an, an, an, an, an, an, an, an, an, an, an, an, an, an, an, an, an, an, an, an, an, an, an, an, an, an, an, an, an, an, an, an, an, an, an, an, an, an, an, an, an, an, an, an, an, an, an, an, an, an, an, an, an, an, an, an, an, an, an, an, an, an, an, an, an, an, an, an, an, an, an, an, an, an, an, an], [(.box [(.int IntKind.i64), .str, .str, .str, (.int IntKind.i64), (.int IntKind.i64), (.int IntKind.i64), (.int IntKind.i64), .str, .str, (.sl 3), (.sl 9), (.sl 65), (.sl 51)] [(.int IntKind.i64 h0_0), (.str h0_1), (.str h0_2), (.str h0_3), (.int IntKind.i64 h0_4), (.int IntKind.i64 h0_5), (.int IntKind.i64 h0_6), (.int IntKind.i64 h0_7), (.str h0_8), (.str h0_9), (.lst 3 h0_10), (.lst 9 h0_11), (.lst 65 h0_12), (.lst 51 h0_13)]), (.box [(.int IntKind.i64), .str, .str, .str, (.int IntKind.i64), (.int IntKind.i64), (.int IntKind.i64), (.int IntKind.i64), .str, .str, (.sl 3), (.sl 9), (.sl 65), (.sl 51)] [(.int IntKind.i64 h1_0), (.str h1_1), (.str h1_2), (.str h1_3), (.int IntKind.i64 h1_4), (.int IntKind.i64 h1_5), (.int IntKind.i64 h1_6), (.int IntKind.i64 h1_7), (.str h1_8), (.str h1_9), (.lst 3 h1_10), (.lst 9 h1_11), (.lst 65 h1_12), (.lst 51 h1_13)])]⟩
noncomputable def rsame_q11 (i6 : Int) (h0_0 : Int) (h0_1 : ByteArray) (h0_2 : ByteArray) (h0_3 : ByteArray) (h0_4 : Int) (h0_5 : Int) (h0_6 : Int) (h0_7 : Int) (h0_8 : ByteArray) (h0_9 : ByteArray) (h0_10 : List (List L)) (h0_11 : List (List L)) (h0_12 : List (List L)) (h0_13 : List (List L)) (h1_0 : Int) (h1_1 : ByteArray) (h1_2 : ByteArray) (h1_3 : ByteArray) (h1_4 : Int) (h1_5 : Int) (h1_6 : Int) (h1_7 : Int) (h1_8 : ByteArray) (h1_9 : ByteArray) (h1_10 : List (List L)) (h1_11 : List (List L)) (h1_12 : List (List L)) (h1_13 : List (List L)) : Req := .point 22 [] (todoAt Tryz.prog 22 11) ⟨[an, an, (.lf (.ptr 0 0)), (.lf (.ptr 1 0)), an, an, (.lf (.int IntKind.i64 i6)), an, an, an, an, an, an, an, an, an, an, an, an, an, an, an, an, an, an, an, an, an, an, an, an, an, an, an, an, an, an, an, an, an, an, an, an, an, an, an, an, an, an, an, an, an, an, an, an, an, an, an, an, an, an, an, an, an, an, an, an, an, an, an, an, an, an, an, an, an, an, an, an, an, an, an, an, an, an, an, an, an, an, an, an, an, an, an, an, an, an, an, an, an, an, an, an, an, an, an, an, an, an, an, an, an, an, an, an, an, an, an, an, an, an, an, an, an, an, an, an, an, an, an, an, an, an, an, an, an, an, an, an, an, an, an, an, an, an, an, an, an, an, an, an, an, an, an, an, an, an, an, an, an, an, an, an, an, an, an, an, an, an, an, an, an, an, an, an, an, an, an, an, an, an, an, an, an, an, an, an, an, an, an, an, an, an, an, an], [(.box [(.int IntKind.i64), .str, .str, .str, (.int IntKind.i64), (.int IntKind.i64), (.int IntKind.i64), (.int IntKind.i64), .str, .str, (.sl 3), (.sl 9), (.sl 65), (.sl 51)] [(.int IntKind.i64 h0_0), (.str h0_1), (.str h0_2), (.str h0_3), (.int IntKind.i64 h0_4), (.int IntKind.i64 h0_5), (.int IntKind.i64 h0_6), (.int IntKind.i64 h0_7), (.str h0_8), (.str h0_9), (.lst 3 h0_10), (.lst 9 h0_11), (.lst 65 h0_12), (.lst 51 h0_13)]), (.box [(.int IntKind.i64), .str, .str, .str, (.int IntKind.i64), (.int IntKind.i64), (.int IntKind.i64), (.int IntKind.i64), .str, .str, (.sl 3), (.sl 9), (.sl 65), (.sl 51)] [(.int IntKind.i64 h1_0), (.str h1_1), (.str h1_2), (.str h1_3), (.int IntKind.i64 h1_4), (.int IntKind.i64 h1_5), (.int IntKind.i64 h1_6), (.int IntKind.i64 h1_7), (.str h1_8), (.str h1_9), (.lst 3 h1_10), (.lst 9 h1_11), (.lst 65 h1_12), (.lst 51 h1_13)])]⟩
noncomputable def rsame_q16 (i7 : Int) (h0_0 : Int) (h0_1 : ByteArray) (h0_2 : ByteArray) (h0_3 : ByteArray) (h0_4 : Int) (h0_5 : Int) (h0_6 : Int) (h0_7 : Int) (h0_8 : ByteArray) (h0_9 : ByteArray) (h0_10 : List (List L)) (h0_11 : List (List L)) (h0_12 : List (List L)) (h0_13 : List (List L)) (h1_0 : Int) (h1_1 : ByteArray) (h1_2 : ByteArray) (h1_3 : ByteArray) (h1_4 : Int) (h1_5 : Int) (h1_6 : Int) (h1_7 : Int) (h1_8 : ByteArray) (h1_9 : ByteArray) (h1_10 : List (List L)) (h1_11 : List (List L)) (h1_12 : List (List L)) (h1_13 : List (List L)) : Req := .point 22 [] (todoAt Tryz.prog 22 16) ⟨[an, an, (.lf (.ptr 0 0)), (.lf (.ptr 1 0)), an, an, an, (.lf (.int IntKind.i64 i7)), an, an, an, an, an, an, an, an, an, an, an, an, an, an, an, an, an, an, an, an, an, an, an, an, an, an, an, an, an, an, an, an, an, an, an, an, an, an, an, an, an, an, an, an, an, an, an, an, an, an, an, an, an, an, an, an, an, an, an, an, an, an, an, an, an, an, an, an, an, an, an, an, an, an, an, an, an, an, an, an, an, an, an, an, an, an, an, an, an, an, an, an, an, an, an, an, an, an, an, an, an, an, an, an, an, an, an, an, an, an, an, an, an, an, an, an, an, an, an, an, an, an, an, an, an, an, an, an, an, an, an, an, an, an, an, an, an, an, an, an, an, an, an, an, an, an, an, an, an, an, an, an, an, an, an, an, an, an, an, an, an, an, an, an, an, an, an, an, an, an, an, an, an, an, an, an, an, an, an, an, an, an, an, an, an, an, an], [(.box [(.int IntKind.i64), .str, .str, .str, (.int IntKind.i64), (.int IntKind.i64), (.int IntKind.i64), (.int IntKind.i64), .str, .str, (.sl 3), (.sl 9), (.sl 65), (.sl 51)] [(.int IntKind.i64 h0_0), (.str h0_1), (.str h0_2), (.str h0_3), (.int IntKind.i64 h0_4), (.int IntKind.i64 h0_5), (.int IntKind.i64 h0_6), (.int IntKind.i64 h0_7), (.str h0_8), (.str h0_9), (.lst 3 h0_10), (.lst 9 h0_11), (.lst 65 h0_12), (.lst 51 h0_13)]), (.box [(.int IntKind.i64), .str, .str, .str, (.int IntKind.i64), (.int IntKind.i64), (.int IntKind.i64), (.int IntKind.i64), .str, .str, (.sl 3), (.sl 9), (.sl 65), (.sl 51)] [(.int IntKind.i64 h1_0), (.str h1_1), (.str h1_2), (.str h1_3), (.int IntKind.i64 h1_4), (.int IntKind.i64 h1_5), (.int IntKind.i64 h1_6), (.int IntKind.i64 h1_7), (.str h1_8), (.str h1_9), (.lst 3 h1_10), (.lst 9 h1_11), (.lst 65 h1_12), (.lst 51 h1_13)])]⟩
noncomputable def rsame_q21 (i8 : Int) (h0_0 : Int) (h0_1 : ByteArray) (h0_2 : ByteArray) (h0_3 : ByteArray) (h0_4 : Int) (h0_5 : Int) (h0_6 : Int) (h0_7 : Int) (h0_8 : ByteArray) (h0_9 : ByteArray) (h0_10 : List (List L)) (h0_11 : List (List L)) (h0_12 : List (List L)) (h0_13 : List (List L)) (h1_0 : Int) (h1_1 : ByteArray) (h1_2 : ByteArray) (h1_3 : ByteArray) (h1_4 : Int) (h1_5 : Int) (h1_6 : Int) (h1_7 : Int) (h1_8 : ByteArray) (h1_9 : ByteArray) (h1_10 : List (List L)) (h1_11 : List (List L)) (h1_12 : List (List L)) (h1_13 : List (List L)) : Req := .point 22 [] (todoAt Tryz.prog 22 21) ⟨[an, an, (.lf (.ptr 0 0)), (.lf (.ptr 1 0)), an, an, an, an, (.lf (.int IntKind.i64 i8)), an, an, an, an, an, an, an, an, an, an, an, an, an, an, an, an, an, an, an, an, an, an, an, an, an, an, an, an, an, an, an, an, an, an, an, an, an, an, an, an, an, an, an, an, an, an, an, an, an, an, an, an, an, an, an, an, an, an, an, an, an, an, an, an, an, an, an, an, an, an, an, an, an, an, an, an, an, an, an, an, an, an, an, an, an, an, an, an, an, an, an, an, an, an, an, an, an, an, an, an, an, an, an, an, an, an, an, an, an, an, an, an, an, an, an, an, an, an, an, an, an, an, an, an, an, an, an, an, an, an, an, an, an, an, an, an, an, an, an, an, an, an, an, an, an, an, an, an, an, an, an, an, an, an, an, an, an, an, an, an, an, an, an, an, an, an, an, an, an, an, an, an, an, an, an, an, an, an, an, an, an, an, an, an, an, an], [(.box [(.int IntKind.i64), .str, .str, .str, (.int IntKind.i64), (.int IntKind.i64), (.int IntKind.i64), (.int IntKind.i64), .str, .str, (.sl 3), (.sl 9), (.sl 65), (.sl 51)] [(.int IntKind.i64 h0_0), (.str h0_1), (.str h0_2), (.str h0_3), (.int IntKind.i64 h0_4), (.int IntKind.i64 h0_5), (.int IntKind.i64 h0_6), (.int IntKind.i64 h0_7), (.str h0_8), (.str h0_9), (.lst 3 h0_10), (.lst 9 h0_11), (.lst 65 h0_12), (.lst 51 h0_13)]), (.box [(.int IntKind.i64), .str, .str, .str, (.int IntKind.i64), (.int IntKind.i64), (.int IntKind.i64), (.int IntKind.i64), .str, .str, (.sl 3), (.sl 9), (.sl 65), (.sl 51)] [(.int IntKind.i64 h1_0), (.str h1_1), (.str h1_2), (.str h1_3), (.int IntKind.i64 h1_4), (.int IntKind.i64 h1_5), (.int IntKind.i64 h1_6), (.int IntKind.i64 h1_7), (.str h1_8), (.str h1_9), (.lst 3 h1_10), (.lst 9 h1_11), (.lst 65 h1_12), (.lst 51 h1_13)])]⟩
theorem rsame_e (G : Req → R) (a0_0 : Int) (a0_1 : ByteArray) (a0_2 : ByteArray) (a0_3 : ByteArray) (a0_4 : Int) (a0_5 : Int) (a0_6 : Int) (a0_7 : Int) (a0_8 : ByteArray) (a0_9_0 : ByteArray) (a0_9_1 : List (List L)) (a0_9_2 : List (List L)) (a0_10 : List (List L)) (a0_11 : List (List L)) (b1_0 : Int) (b1_1 : ByteArray) (b1_2 : ByteArray) (b1_3 : ByteArray) (b1_4 : Int) (b1_5 : Int) (b1_6 : Int) (b1_7 : Int) (b1_8 : ByteArray) (b1_9_0 : ByteArray) (b1_9_1 : List (List L)) (b1_9_2 : List (List L)) (b1_10 : List (List L)) (b1_11 : List (List L)) : runB (cfg []) G (.enter 22 [(.agg [(.int IntKind.i64 (a0_0)), (.str (a0_1)), (.str (a0_2)), (.str (a0_3)), (.int IntKind.i64 (a0_4)), (.int IntKind.i64 (a0_5)), (.int IntKind.i64 (a0_6)), (.int IntKind.i64 (a0_7)), (.str (a0_8)), (.str (a0_9_0)), (.lst 3 a0_9_1), (.lst 9 a0_9_2), (.lst 65 a0_10), (.lst 51 a0_11)]), (.agg [(.int IntKind.i64 (b1_0)), (.str (b1_1)), (.str (b1_2)), (.str (b1_3)), (.int IntKind.i64 (b1_4)), (.int IntKind.i64 (b1_5)), (.int IntKind.i64 (b1_6)), (.int IntKind.i64 (b1_7)), (.str (b1_8)), (.str (b1_9_0)), (.lst 3 b1_9_1), (.lst 9 b1_9_2), (.lst 65 b1_10), (.lst 51 b1_11)])] []) =
 (cond (a0_0 != b1_0)
 (some [(.bool (false))])
 (cond (!bl a0_1 == bl b1_1)
 (some [(.bool (false))])
 (cond (!bl a0_2 == bl b1_2)
 (some [(.bool (false))])
 (cond (!bl a0_3 == bl b1_3)
 (some [(.bool (false))])
 (cond (a0_4 != b1_4)
 (some [(.bool (false))])
 (cond (a0_5 != b1_5)
 (some [(.bool (false))])
 (cond (a0_6 != b1_6)
 (some [(.bool (false))])
 (cond (a0_7 != b1_7)
 (some [(.bool (false))])
 (cond (!bl a0_8 == bl b1_8)
 (some [(.bool (false))])
 (cond (!bl a0_9_0 == bl b1_9_0)
 (some [(.bool (false))])
 (cond ((↑(List.length a0_9_1) : Int) != (↑(List.length b1_9_1) : Int))
 (some [(.bool (false))])
 (cond ((↑(List.length a0_9_2) : Int) != (↑(List.length b1_9_2) : Int))
 (some [(.bool (false))])
 (cond ((↑(List.length a0_10) : Int) != (↑(List.length b1_10) : Int))
 (some [(.bool (false))])
 (cond ((↑(List.length a0_11) : Int) != (↑(List.length b1_11) : Int))
 (some [(.bool (false))])
 (G (rsame_q6 0 a0_0 a0_1 a0_2 a0_3 a0_4 a0_5 a0_6 a0_7 a0_8 a0_9_0 a0_9_1 a0_9_2 a0_10 a0_11 b1_0 b1_1 b1_2 b1_3 b1_4 b1_5 b1_6 b1_7 b1_8 b1_9_0 b1_9_1 b1_9_2 b1_10 b1_11)))))))))))))))) := by kernel_rfl
theorem rsame_p6 (G : Req → R) (i5 : Int) (h0_0 : Int) (h0_1 : ByteArray) (h0_2 : ByteArray) (h0_3 : ByteArray) (h0_4 : Int) (h0_5 : Int) (h0_6 : Int) (h0_7 : Int) (h0_8 : ByteArray) (h0_9 : ByteArray) (h0_10 : List (List L)) (h0_11 : List (List L)) (h0_12 : List (List L)) (h0_13 : List (List L)) (h1_0 : Int) (h1_1 : ByteArray) (h1_2 : ByteArray) (h1_3 : ByteArray) (h1_4 : Int) (h1_5 : Int) (h1_6 : Int) (h1_7 : Int) (h1_8 : ByteArray) (h1_9 : ByteArray) (h1_10 : List (List L)) (h1_11 : List (List L)) (h1_12 : List (List L)) (h1_13 : List (List L)) : runB (cfg []) G (rsame_q6 i5 h0_0 h0_1 h0_2 h0_3 h0_4 h0_5 h0_6 h0_7 h0_8 h0_9 h0_10 h0_11 h0_12 h0_13 h1_0 h1_1 h1_2 h1_3 h1_4 h1_5 h1_6 h1_7 h1_8 h1_9 h1_10 h1_11 h1_12 h1_13) =
 (cond (ltI i5 (↑(List.length h0_10) : Int))
 (cond (leI 0 i5 && ltI i5 (↑(List.length h0_10) : Int))
 (cond (leI 0 i5 && ltI i5 (↑(List.length h1_10) : Int))
 (cond (cI 0 (atL h0_10 i5) != cI 0 (atL h1_10 i5))
 (some [(.bool (false))])
 (G (rsame_q6 (wrapI IntKind.i64 (i5 + 1)) h0_0 h0_1 h0_2 h0_3 h0_4 h0_5 h0_6 h0_7 h0_8 h0_9 h0_10 h0_11 h0_12 h0_13 h1_0 h1_1 h1_2 h1_3 h1_4 h1_5 h1_6 h1_7 h1_8 h1_9 h1_10 h1_11 h1_12 h1_13)))
 none)
 none)
 (G (rsame_q11 0 h0_0 h0_1 h0_2 h0_3 h0_4 h0_5 h0_6 h0_7 h0_8 h0_9 h0_10 h0_11 h0_12 h0_13 h1_0 h1_1 h1_2 h1_3 h1_4 h1_5 h1_6 h1_7 h1_8 h1_9 h1_10 h1_11 h1_12 h1_13))) := by kernel_rfl
theorem rsame_p11 (G : Req → R) (i6 : Int) (h0_0 : Int) (h0_1 : ByteArray) (h0_2 : ByteArray) (h0_3 : ByteArray) (h0_4 : Int) (h0_5 : Int) (h0_6 : Int) (h0_7 : Int) (h0_8 : ByteArray) (h0_9 : ByteArray) (h0_10 : List (List L)) (h0_11 : List (List L)) (h0_12 : List (List L)) (h0_13 : List (List L)) (h1_0 : Int) (h1_1 : ByteArray) (h1_2 : ByteArray) (h1_3 : ByteArray) (h1_4 : Int) (h1_5 : Int) (h1_6 : Int) (h1_7 : Int) (h1_8 : ByteArray) (h1_9 : ByteArray) (h1_10 : List (List L)) (h1_11 : List (List L)) (h1_12 : List (List L)) (h1_13 : List (List L)) : runB (cfg []) G (rsame_q11 i6 h0_0 h0_1 h0_2 h0_3 h0_4 h0_5 h0_6 h0_7 h0_8 h0_9 h0_10 h0_11 h0_12 h0_13 h1_0 h1_1 h1_2 h1_3 h1_4 h1_5 h1_6 h1_7 h1_8 h1_9 h1_10 h1_11 h1_12 h1_13) =
 (cond (ltI i6 (↑(List.length h0_11) : Int))
 (cond (leI 0 i6 && ltI i6 (↑(List.length h0_11) : Int))
 (cond (leI 0 i6 && ltI i6 (↑(List.length h1_11) : Int))
 (cond (!bl (cT 0 (atL h0_11 i6)) == bl (cT 0 (atL h1_11 i6)))
 (some [(.bool (false))])
 (G (rsame_q11 (wrapI IntKind.i64 (i6 + 1)) h0_0 h0_1 h0_2 h0_3 h0_4 h0_5 h0_6 h0_7 h0_8 h0_9 h0_10 h0_11 h0_12 h0_13 h1_0 h1_1 h1_2 h1_3 h1_4 h1_5 h1_6 h1_7 h1_8 h1_9 h1_10 h1_11 h1_12 h1_13)))
 none)
 none)
 (G (rsame_q16 0 h0_0 h0_1 h0_2 h0_3 h0_4 h0_5 h0_6 h0_7 h0_8 h0_9 h0_10 h0_11 h0_12 h0_13 h1_0 h1_1 h1_2 h1_3 h1_4 h1_5 h1_6 h1_7 h1_8 h1_9 h1_10 h1_11 h1_12 h1_13))) := by kernel_rfl
theorem rsame_p16 (G : Req → R) (i7 : Int) (h0_0 : Int) (h0_1 : ByteArray) (h0_2 : ByteArray) (h0_3 : ByteArray) (h0_4 : Int) (h0_5 : Int) (h0_6 : Int) (h0_7 : Int) (h0_8 : ByteArray) (h0_9 : ByteArray) (h0_10 : List (List L)) (h0_11 : List (List L)) (h0_12 : List (List L)) (h0_13 : List (List L)) (h1_0 : Int) (h1_1 : ByteArray) (h1_2 : ByteArray) (h1_3 : ByteArray) (h1_4 : Int) (h1_5 : Int) (h1_6 : Int) (h1_7 : Int) (h1_8 : ByteArray) (h1_9 : ByteArray) (h1_10 : List (List L)) (h1_11 : List (List L)) (h1_12 : List (List L)) (h1_13 : List (List L)) : runB (cfg []) G (rsame_q16 i7 h0_0 h0_1 h0_2 h0_3 h0_4 h0_5 h0_6 h0_7 h0_8 h0_9 h0_10 h0_11 h0_12 h0_13 h1_0 h1_1 h1_2 h1_3 h1_4 h1_5 h1_6 h1_7 h1_8 h1_9 h1_10 h1_11 h1_12 h1_13) =
 (cond (ltI i7 (↑(List.length h0_12) : Int))
 (cond (leI 0 i7 && ltI i7 (↑(List.length h0_12) : Int))
 (cond (leI 0 i7 && ltI i7 (↑(List.length h1_12) : Int))
 (cond (!(cO 0 (atL h0_12 i7) == cO 0 (atL h1_12 i7) && (bl (cT 1 (atL h0_12 i7)) == bl (cT 1 (atL h1_12 i7)) && (bl (cT 2 (atL h0_12 i7)) == bl (cT 2 (atL h1_12 i7)) && (bl (cT 3 (atL h0_12 i7)) == bl (cT 3 (atL h1_12 i7)) && true)))))
 (some [(.bool (false))])
 (G (rsame_q16 (wrapI IntKind.i64 (i7 + 1)) h0_0 h0_1 h0_2 h0_3 h0_4 h0_5 h0_6 h0_7 h0_8 h0_9 h0_10 h0_11 h0_12 h0_13 h1_0 h1_1 h1_2 h1_3 h1_4 h1_5 h1_6 h1_7 h1_8 h1_9 h1_10 h1_11 h1_12 h1_13)))
 none)
 none)
 (G (rsame_q21 0 h0_0 h0_1 h0_2 h0_3 h0_4 h0_5 h0_6 h0_7 h0_8 h0_9 h0_10 h0_11 h0_12 h0_13 h1_0 h1_1 h1_2 h1_3 h1_4 h1_5 h1_6 h1_7 h1_8 h1_9 h1_10 h1_11 h1_12 h1_13))) := by kernel_rfl
theorem rsame_p21 (G : Req → R) (i8 : Int) (h0_0 : Int) (h0_1 : ByteArray) (h0_2 : ByteArray) (h0_3 : ByteArray) (h0_4 : Int) (h0_5 : Int) (h0_6 : Int) (h0_7 : Int) (h0_8 : ByteArray) (h0_9 : ByteArray) (h0_10 : List (List L)) (h0_11 : List (List L)) (h0_12 : List (List L)) (h0_13 : List (List L)) (h1_0 : Int) (h1_1 : ByteArray) (h1_2 : ByteArray) (h1_3 : ByteArray) (h1_4 : Int) (h1_5 : Int) (h1_6 : Int) (h1_7 : Int) (h1_8 : ByteArray) (h1_9 : ByteArray) (h1_10 : List (List L)) (h1_11 : List (List L)) (h1_12 : List (List L)) (h1_13 : List (List L)) : runB (cfg []) G (rsame_q21 i8 h0_0 h0_1 h0_2 h0_3 h0_4 h0_5 h0_6 h0_7 h0_8 h0_9 h0_10 h0_11 h0_12 h0_13 h1_0 h1_1 h1_2 h1_3 h1_4 h1_5 h1_6 h1_7 h1_8 h1_9 h1_10 h1_11 h1_12 h1_13) =
 (cond (ltI i8 (↑(List.length h0_13) : Int))
 (cond (leI 0 i8 && ltI i8 (↑(List.length h0_13) : Int))
 (cond (leI 0 i8 && ltI i8 (↑(List.length h1_13) : Int))
 (cond (!(bl (cT 0 (atL h0_13 i8)) == bl (cT 0 (atL h1_13 i8)) && (bl (cT 1 (atL h0_13 i8)) == bl (cT 1 (atL h1_13 i8)) && (cO 2 (atL h0_13 i8) == cO 2 (atL h1_13 i8) && true))))
 (some [(.bool (false))])
 (G (rsame_q21 (wrapI IntKind.i64 (i8 + 1)) h0_0 h0_1 h0_2 h0_3 h0_4 h0_5 h0_6 h0_7 h0_8 h0_9 h0_10 h0_11 h0_12 h0_13 h1_0 h1_1 h1_2 h1_3 h1_4 h1_5 h1_6 h1_7 h1_8 h1_9 h1_10 h1_11 h1_12 h1_13)))
 none)
 none)
 (some [(.bool (true))])) := by kernel_rfl

noncomputable def sameList_q4 (a0 : List (List L)) (b1 : List (List L)) (i5 : Int) : Req := .point 10 [] (todoAt Tryz.prog 10 4) ⟨[(.lf (.lst 42 a0)), (.lf (.lst 42 b1)), an, an, an, (.lf (.int IntKind.i64 i5)), an, an, an, an, an, an, an, an, an, an, an, an, an, an, an, an, an, an, an, an, an], []⟩
theorem sameList_e (G : Req → R) (a0 : List (List L)) (b1 : List (List L)) : runB (cfg [k_rsame]) G (.enter 10 [(.lf (.lst 42 a0)), (.lf (.lst 42 b1))] []) =
 (cond ((↑(List.length a0) : Int) != (↑(List.length b1) : Int))
 (some [(.bool (false))])
 (G (sameList_q4 a0 b1 0))) := by kernel_rfl
theorem sameList_p4 (G : Req → R) (a0 : List (List L)) (b1 : List (List L)) (i5 : Int) : runB (cfg [k_rsame]) G (sameList_q4 a0 b1 i5) =
 (cond (ltI i5 (↑(List.length a0) : Int))
 (cond (leI 0 i5 && ltI i5 (↑(List.length a0) : Int))
 (cond (leI 0 i5 && ltI i5 (↑(List.length b1) : Int))
 (cond (isLs (cX 10 (atL a0 i5)) (cX 11 (atL a0 i5)) (cX 12 (atL a0 i5)) (cX 13 (atL a0 i5)) && (isLs (cX 10 (atL b1 i5)) (cX 11 (atL b1 i5)) (cX 12 (atL b1 i5)) (cX 13 (atL b1 i5)) && smE (Ev.mk (cI 0 (atL b1 i5)) (bl (cT 1 (atL b1 i5))) (bl (cT 2 (atL b1 i5))) (bl (cT 3 (atL b1 i5))) (cI 4 (atL b1 i5)) (cI 5 (atL b1 i5)) (cI 6 (atL b1 i5)) (cI 7 (atL b1 i5)) (bl (cT 8 (atL b1 i5))) (bl (cT 9 (atL b1 i5))) (dIs (cX 10 (atL b1 i5))) (dSs (cX 11 (atL b1 i5))) (dRs (cX 12 (atL b1 i5))) (dWs (cX 13 (atL b1 i5))))))
 (cond (!decide (Ev.mk (cI 0 (atL a0 i5)) (bl (cT 1 (atL a0 i5))) (bl (cT 2 (atL a0 i5))) (bl (cT 3 (atL a0 i5))) (cI 4 (atL a0 i5)) (cI 5 (atL a0 i5)) (cI 6 (atL a0 i5)) (cI 7 (atL a0 i5)) (bl (cT 8 (atL a0 i5))) (bl (cT 9 (atL a0 i5))) (dIs (cX 10 (atL a0 i5))) (dSs (cX 11 (atL a0 i5))) (dRs (cX 12 (atL a0 i5))) (dWs (cX 13 (atL a0 i5))) = Ev.mk (cI 0 (atL b1 i5)) (bl (cT 1 (atL b1 i5))) (bl (cT 2 (atL b1 i5))) (bl (cT 3 (atL b1 i5))) (cI 4 (atL b1 i5)) (cI 5 (atL b1 i5)) (cI 6 (atL b1 i5)) (cI 7 (atL b1 i5)) (bl (cT 8 (atL b1 i5))) (bl (cT 9 (atL b1 i5))) (dIs (cX 10 (atL b1 i5))) (dSs (cX 11 (atL b1 i5))) (dRs (cX 12 (atL b1 i5))) (dWs (cX 13 (atL b1 i5)))))
 (some [(.bool (false))])
 (G (sameList_q4 a0 b1 (wrapI IntKind.i64 (i5 + 1)))))
 none)
 none)
 none)
 (some [(.bool (true))])) := by kernel_rfl

end Go.Ab
namespace Go.Ab
open Go.Proofs

theorem neI (a b : Int) : (cI 0 (eI1 a) != cI 0 (eI1 b)) = !decide (a = b) := by
  show (!(a == b)) = _
  congr 1
theorem neS (a b : W) : (!bl (cT 0 (eS1 a)) == bl (cT 0 (eS1 b))) = !decide (a = b) := by
  show (!(a == b)) = _
  congr 1
  rw [Bool.eq_iff_iff, beq_iff_eq, decide_eq_true_eq]
theorem neR (a b : Ru) : (!(cO 0 (eR1 a) == cO 0 (eR1 b) && (bl (cT 1 (eR1 a)) == bl (cT 1 (eR1 b)) && (bl (cT 2 (eR1 a)) == bl (cT 2 (eR1 b)) && (bl (cT 3 (eR1 a)) == bl (cT 3 (eR1 b)) && true))))) = !decide (a = b) := by
  obtain ⟨a1, a2, a3, a4⟩ := a
  obtain ⟨b1, b2, b3, b4⟩ := b
  show (!(a1 == b1 && (a2 == b2 && (a3 == b3 && (a4 == b4 && true))))) = _
  congr 1
  rw [Bool.eq_iff_iff]
  simp [Prod.mk.injEq]
theorem neW (a b : Wr) : (!(bl (cT 0 (eW1 a)) == bl (cT 0 (eW1 b)) && (bl (cT 1 (eW1 a)) == bl (cT 1 (eW1 b)) && (cO 2 (eW1 a) == cO 2 (eW1 b) && true)))) = !decide (a = b) := by
  obtain ⟨a1, a2, a3⟩ := a
  obtain ⟨b1, b2, b3⟩ := b
  show (!(a1 == b1 && (a2 == b2 && (a3 == b3 && true)))) = _
  congr 1
  rw [Bool.eq_iff_iff]
  simp [Prod.mk.injEq]
theorem cons_d {α : Type} [DecidableEq α] {a b : α} {l l' : List α} : decide (a :: l = b :: l') = (decide (a = b) && decide (l = l')) := by
  rw [Bool.eq_iff_iff]
  simp

theorem eqI_loop (xs ys : List Int) (hl : xs.length = ys.length) (hs : xs.length ≤ 1000000) : ∀ m i : Nat, i + m = xs.length → Runs (cfg []) (eqI_q4 (eIs xs) (eIs ys) (xs.length : Nat) (i : Nat)) [.bool (decide (xs.drop i = ys.drop i))]
  | 0, i, h => by
    refine Runs.by (eqI_p4 · _ _ _ _) ?_
    rw [drop_end (l := xs) (by omega), drop_end (l := ys) (by omega)]
    simp (disch := omega) only [ev_lt_f, cond_false]
    exact .ret' (by simp)
  | m + 1, i, h => by
    have ih := eqI_loop xs ys hl hs m (i + 1) (by omega)
    refine Runs.by (eqI_p4 · _ _ _ _) ?_
    rw [drop_at 0 (show i < xs.length by omega), drop_at 0 (show i < ys.length by omega), cons_d]
    have ha : atL (eIs xs) (i : Int) = eI1 (xs.getD i 0) := atL_map _ xs i 0 (by omega)
    have hb : atL (eIs ys) (i : Int) = eI1 (ys.getD i 0) := atL_map _ ys i 0 (by omega)
    simp (disch := omega) only [ha, hb, neI, eIs_len, ev_lt_t, ev_le_t, Bool.and_self, cond_true, w64]
    by_cases he : xs.getD i 0 = ys.getD i 0
    · rw [decide_eq_true he]
      exact .go ih
    · rw [decide_eq_false he]
      exact .ret
theorem eqI_holds : Holds k_eqI := con_run (xs := []) hold0 fun aa hp r h => by
  split at h
  case h_2 => cases h
  rename_i xs ys
  obtain ⟨g, rfl⟩ := xo h
  rw [Bool.and_eq_true, Bool.and_eq_true] at g
  obtain ⟨xs, _, _, _, rfl, h1, h2, h3⟩ := isLs_of g.1
  obtain ⟨ys, _, _, _, rfl, h1', h2', h3'⟩ := isLs_of g.2.1
  have g3 := sm_of g.2.2
  rw [eIs_len] at g3
  refine Runs.by (eqI_e · _ _) ?_
  rw [dIs_e, dIs_e, eIs_len, eIs_len]
  by_cases hl : xs.length = ys.length
  · have := eqI_loop xs ys hl (by omega) xs.length 0 (Nat.zero_add _)
    rw [List.drop_zero, List.drop_zero] at this
    rw [ev_ne_f (by omega)]
    exact .go this
  · rw [ev_ne_t (by omega), decide_eq_false (fun e => hl (by rw [e]))]
    exact .ret

theorem eqS_loop (xs ys : List W) (hl : xs.length = ys.length) (hs : xs.length ≤ 1000000) : ∀ m i : Nat, i + m = xs.length → Runs (cfg []) (eqS_q4 (eSs xs) (eSs ys) (xs.length : Nat) (i : Nat)) [.bool (decide (xs.drop i = ys.drop i))]
  | 0, i, h => by
    refine Runs.by (eqS_p4 · _ _ _ _) ?_
    rw [drop_end (l := xs) (by omega), drop_end (l := ys) (by omega)]
    simp (disch := omega) only [ev_lt_f, cond_false]
    exact .ret' (by simp)
  | m + 1, i, h => by
    have ih := eqS_loop xs ys hl hs m (i + 1) (by omega)
    refine Runs.by (eqS_p4 · _ _ _ _) ?_
    rw [drop_at [] (show i < xs.length by omega), drop_at [] (show i < ys.length by omega), cons_d]
    have ha : atL (eSs xs) (i : Int) = eS1 (xs.getD i []) := atL_map _ xs i [] (by omega)
    have hb : atL (eSs ys) (i : Int) = eS1 (ys.getD i []) := atL_map _ ys i [] (by omega)
    simp (disch := omega) only [ha, hb, neS, eSs_len, ev_lt_t, ev_le_t, Bool.and_self, cond_true, w64]
    by_cases he : xs.getD i [] = ys.getD i []
    · rw [decide_eq_true he]
      exact .go ih
    · rw [decide_eq_false he]
      exact .ret
theorem eqS_holds : Holds k_eqS := con_run (xs := []) hold0 fun aa hp r h => by
  split at h
  case h_2 => cases h
  rename_i xs ys
  obtain ⟨g, rfl⟩ := xo h
  rw [Bool.and_eq_true, Bool.and_eq_true] at g
  obtain ⟨_, xs, _, _, h0, rfl, h2, h3⟩ := isLs_of g.1
  obtain ⟨_, ys, _, _, h0', rfl, h2', h3'⟩ := isLs_of g.2.1
  have g3 := sm_of g.2.2
  rw [eSs_len] at g3
  refine Runs.by (eqS_e · _ _) ?_
  rw [dSs_e, dSs_e, eSs_len, eSs_len]
  by_cases hl : xs.length = ys.length
  · have := eqS_loop xs ys hl (by omega) xs.length 0 (Nat.zero_add _)
    rw [List.drop_zero, List.drop_zero] at this
    rw [ev_ne_f (by omega)]
    exact .go this
  · rw [ev_ne_t (by omega), decide_eq_false (fun e => hl (by rw [e]))]
    exact .ret

theorem eqR_loop (xs ys : List Ru) (hl : xs.length = ys.length) (hs : xs.length ≤ 1000000) : ∀ m i : Nat, i + m = xs.length → Runs (cfg []) (eqR_q4 (eRs xs) (eRs ys) (xs.length : Nat) (i : Nat)) [.bool (decide (xs.drop i = ys.drop i))]
  | 0, i, h => by
    refine Runs.by (eqR_p4 · _ _ _ _) ?_
    rw [drop_end (l := xs) (by omega), drop_end (l := ys) (by omega)]
    simp (disch := omega) only [ev_lt_f, cond_false]
    exact .ret' (by simp)
  | m + 1, i, h => by
    have ih := eqR_loop xs ys hl hs m (i + 1) (by omega)
    refine Runs.by (eqR_p4 · _ _ _ _) ?_
    rw [drop_at (false, [], [], []) (show i < xs.length by omega), drop_at (false, [], [], []) (show i < ys.length by omega), cons_d]
    have ha : atL (eRs xs) (i : Int) = eR1 (xs.getD i (false, [], [], [])) := atL_map _ xs i (false, [], [], []) (by omega)
    have hb : atL (eRs ys) (i : Int) = eR1 (ys.getD i (false, [], [], [])) := atL_map _ ys i (false, [], [], []) (by omega)
    simp (disch := omega) only [ha, hb, neR, eRs_len, ev_lt_t, ev_le_t, Bool.and_self, cond_true, w64]
    by_cases he : xs.getD i (false, [], [], []) = ys.getD i (false, [], [], [])
    · rw [decide_eq_true he]
      exact .go ih
    · rw [decide_eq_false he]
      exact .ret
theorem eqR_holds : Holds k_eqR := con_run (xs := []) hold0 fun aa hp r h => by
  split at h
  case h_2 => cases h
  rename_i xs ys
  obtain ⟨g, rfl⟩ := xo h
  rw [Bool.and_eq_true, Bool.and_eq_true] at g
  obtain ⟨_, _, xs, _, h0, h1, rfl, h3⟩ := isLs_of g.1
  obtain ⟨_, _, ys, _, h0', h1', rfl, h3'⟩ := isLs_of g.2.1
  have g3 := sm_of g.2.2
  rw [eRs_len] at g3
  refine Runs.by (eqR_e · _ _) ?_
  rw [dRs_e, dRs_e, eRs_len, eRs_len]
  by_cases hl : xs.length = ys.length
  · have := eqR_loop xs ys hl (by omega) xs.length 0 (Nat.zero_add _)
    rw [List.drop_zero, List.drop_zero] at this
    rw [ev_ne_f (by omega)]
    exact .go this
  · rw [ev_ne_t (by omega), decide_eq_false (fun e => hl (by rw [e]))]
    exact .ret

theorem eqW_loop (xs ys : List Wr) (hl : xs.length = ys.length) (hs : xs.length ≤ 1000000) : ∀ m i : Nat, i + m = xs.length → Runs (cfg []) (eqW_q4 (eWs xs) (eWs ys) (xs.length : Nat) (i : Nat)) [.bool (decide (xs.drop i = ys.drop i))]
  | 0, i, h => by
    refine Runs.by (eqW_p4 · _ _ _ _) ?_
    rw [drop_end (l := xs) (by omega), drop_end (l := ys) (by omega)]
    simp (disch := omega) only [ev_lt_f, cond_false]
    exact .ret' (by simp)
  | m + 1, i, h => by
    have ih := eqW_loop xs ys hl hs m (i + 1) (by omega)
    refine Runs.by (eqW_p4 · _ _ _ _) ?_
    rw [drop_at ([], [], false) (show i < xs.length by omega), drop_at ([], [], false) (show i < ys.length by omega), cons_d]
    have ha : atL (eWs xs) (i : Int) = eW1 (xs.getD i ([], [], false)) := atL_map _ xs i ([], [], false) (by omega)
    have hb : atL (eWs ys) (i : Int) = eW1 (ys.getD i ([], [], false)) := atL_map _ ys i ([], [], false) (by omega)
    simp (disch := omega) only [ha, hb, neW, eWs_len, ev_lt_t, ev_le_t, Bool.and_self, cond_true, w64]
    by_cases he : xs.getD i ([], [], false) = ys.getD i ([], [], false)
    · rw [decide_eq_true he]
      exact .go ih
    · rw [decide_eq_false he]
      exact .ret
theorem eqW_holds : Holds k_eqW := con_run (xs := []) hold0 fun aa hp r h => by
  split at h
  case h_2 => cases h
  rename_i xs ys
  obtain ⟨g, rfl⟩ := xo h
  rw [Bool.and_eq_true, Bool.and_eq_true] at g
  obtain ⟨_, _, _, xs, h0, h1, h2, rfl⟩ := isLs_of g.1
  obtain ⟨_, _, _, ys, h0', h1', h2', rfl⟩ := isLs_of g.2.1
  have g3 := sm_of g.2.2
  rw [eWs_len] at g3
  refine Runs.by (eqW_e · _ _) ?_
  rw [dWs_e, dWs_e, eWs_len, eWs_len]
  by_cases hl : xs.length = ys.length
  · have := eqW_loop xs ys hl (by omega) xs.length 0 (Nat.zero_add _)
    rw [List.drop_zero, List.drop_zero] at this
    rw [ev_ne_f (by omega)]
    exact .go this
  · rw [ev_ne_t (by omega), decide_eq_false (fun e => hl (by rw [e]))]
    exact .ret

theorem ev_dec (a b : Ev) : decide (a = b) = (a.kind == b.kind && (a.repo == b.repo && (a.name == b.name && (a.other == b.other && (a.who == b.who && (a.n == b.n && (a.m == b.m && (a.k == b.k && (a.text == b.text && (a.gname == b.gname && (decide (a.users = b.users) && (decide (a.groups = b.groups) && (decide (a.rules = b.rules) && decide (a.writes = b.writes)))))))))))))) := by
  rw [Bool.eq_iff_iff]
  obtain ⟨k, a1, a2, a3, a4, a5, a6, a7, a8, a9, us, gs, rs, ws⟩ := a
  obtain ⟨k', a1', a2', a3', a4', a5', a6', a7', a8', a9', us', gs', rs', ws'⟩ := b
  simp [Ev.mk.injEq]
theorem psame_holds : Holds k_psame := conEE_of (ks := [k_eqI, k_eqS, k_eqR, k_eqW]) (hold1 eqI_holds (hold1 eqS_holds (hold1 eqR_holds (hold1 eqW_holds hold0)))) fun a b g => by
  rw [ev_dec]
  obtain ⟨k, a1, a2, a3, a4, a5, a6, a7, a8, a9, us, gs, rs, ws⟩ := a
  obtain ⟨k', a1', a2', a3', a4', a5', a6', a7', a8', a9', us', gs', rs', ws'⟩ := b
  unfold smE at g
  simp only [Bool.and_eq_true] at g
  obtain ⟨⟨g1, g2⟩, g3, g4⟩ := g
  refine Runs.by (psame_e · _ _ _ _ _ _ _ _ _ _ _ _ _ _ _ _ _ _ _ _ _ _ _ _ _ _ _ _) ?_
  have i1 : isLs (eIs us) [] [] [] = true := isLs_e us [] [] []
  have i2 : isLs (eIs us') [] [] [] = true := isLs_e us' [] [] []
  have i3 : isLs [] (eSs gs) [] [] = true := isLs_e [] gs [] []
  have i4 : isLs [] (eSs gs') [] [] = true := isLs_e [] gs' [] []
  have i5 : isLs [] [] (eRs rs) [] = true := isLs_e [] [] rs []
  have i6 : isLs [] [] (eRs rs') [] = true := isLs_e [] [] rs' []
  have i7 : isLs [] [] [] (eWs ws) = true := isLs_e [] [] [] ws
  have i8 : isLs [] [] [] (eWs ws') = true := isLs_e [] [] [] ws'
  simp only [bl_mk, i1, i2, i3, i4, i5, i6, i7, i8, eIs_len, eSs_len, eRs_len, eWs_len, g1, g2, g3, g4, Bool.and_self, cond_true, dIs_e, dSs_e, dRs_e, dWs_e]
  generalize (k == k') = c1
  generalize (a1 == a1') = c2
  generalize (a2 == a2') = c3
  generalize (a3 == a3') = c4
  generalize (a4 == a4') = c5
  generalize (a5 == a5') = c6
  generalize (a6 == a6') = c7
  generalize (a7 == a7') = c8
  generalize (a8 == a8') = c9
  generalize (a9 == a9') = c10
  cases c1
  · exact .ret
  cases c2
  · exact .ret
  cases c3
  · exact .ret
  cases c4
  · exact .ret
  cases c5
  · exact .ret
  cases c6
  · exact .ret
  cases c7
  · exact .ret
  cases c8
  · exact .ret
  cases c9
  · exact .ret
  cases c10
  · exact .ret
  simp only [Bool.true_and, cond_true]
  cases decide (us = us')
  · exact .ret
  cases decide (gs = gs')
  · exact .ret
  cases decide (rs = rs')
  · exact .ret
  exact .ret

section
variable (k : Int) (a1 a2 a3 : ByteArray) (a4 a5 a6 a7 : Int) (a8 a9 : ByteArray) (k' : Int) (a1' a2' a3' : ByteArray) (a4' a5' a6' a7' : Int) (a8' a9' : ByteArray) (us us' : List Int) (gs gs' : List W) (rs rs' : List Ru) (ws ws' : List Wr)
theorem rsW_loop (hw : ws.length = ws'.length) (sw : ws.length ≤ 1000000) : ∀ m i : Nat, i + m = ws.length → Runs (cfg []) (rsame_q21 (i : Nat) k a1 a2 a3 a4 a5 a6 a7 a8 a9 (eIs us) (eSs gs) (eRs rs) (eWs ws) k' a1' a2' a3' a4' a5' a6' a7' a8' a9' (eIs us') (eSs gs') (eRs rs') (eWs ws')) [.bool (decide (ws.drop i = ws'.drop i))]
  | 0, i, h => by
    refine Runs.by (rsame_p21 · _ _ _ _ _ _ _ _ _ _ _ _ _ _ _ _ _ _ _ _ _ _ _ _ _ _ _ _ _) ?_
    rw [drop_end (l := ws) (by omega), drop_end (l := ws') (by omega), eWs_len]
    simp (disch := omega) only [ev_lt_f, cond_false]
    exact .ret' (by simp)
  | m + 1, i, h => by
    have ih := rsW_loop hw sw m (i + 1) (by omega)
    refine Runs.by (rsame_p21 · _ _ _ _ _ _ _ _ _ _ _ _ _ _ _ _ _ _ _ _ _ _ _ _ _ _ _ _ _) ?_
    rw [drop_at ([], [], false) (show i < ws.length by omega), drop_at ([], [], false) (show i < ws'.length by omega), cons_d]
    have ha : atL (eWs ws) (i : Int) = eW1 (ws.getD i ([], [], false)) := atL_map _ ws i ([], [], false) (by omega)
    have hb : atL (eWs ws') (i : Int) = eW1 (ws'.getD i ([], [], false)) := atL_map _ ws' i ([], [], false) (by omega)
    simp (disch := omega) only [ha, hb, neW, eWs_len, ev_lt_t, ev_le_t, Bool.and_self, cond_true, w64]
    by_cases he : ws.getD i ([], [], false) = ws'.getD i ([], [], false)
    · rw [decide_eq_true he]
      exact .go ih
    · rw [decide_eq_false he]
      exact .ret
theorem rsR_loop (hw : ws.length = ws'.length) (sw : ws.length ≤ 1000000) (hr : rs.length = rs'.length) (sr : rs.length ≤ 1000000) : ∀ m i : Nat, i + m = rs.length → Runs (cfg []) (rsame_q16 (i : Nat) k a1 a2 a3 a4 a5 a6 a7 a8 a9 (eIs us) (eSs gs) (eRs rs) (eWs ws) k' a1' a2' a3' a4' a5' a6' a7' a8' a9' (eIs us') (eSs gs') (eRs rs') (eWs ws')) [.bool (decide (rs.drop i = rs'.drop i) && (decide (ws = ws')))]
  | 0, i, h => by
    refine Runs.by (rsame_p16 · _ _ _ _ _ _ _ _ _ _ _ _ _ _ _ _ _ _ _ _ _ _ _ _ _ _ _ _ _) ?_
    rw [drop_end (l := rs) (by omega), drop_end (l := rs') (by omega), eRs_len]
    rw [decide_eq_true (rfl : ([] : List Ru) = []), Bool.true_and]
    simp (disch := omega) only [ev_lt_f, cond_false]
    have := rsW_loop k a1 a2 a3 a4 a5 a6 a7 a8 a9 k' a1' a2' a3' a4' a5' a6' a7' a8' a9' us us' gs gs' rs rs' ws ws' hw sw ws.length 0 (Nat.zero_add _)
    rw [List.drop_zero, List.drop_zero] at this
    exact .go this
  | m + 1, i, h => by
    have ih := rsR_loop hw sw hr sr m (i + 1) (by omega)
    refine Runs.by (rsame_p16 · _ _ _ _ _ _ _ _ _ _ _ _ _ _ _ _ _ _ _ _ _ _ _ _ _ _ _ _ _) ?_
    rw [drop_at (false, [], [], []) (show i < rs.length by omega), drop_at (false, [], [], []) (show i < rs'.length by omega), cons_d]
    have ha : atL (eRs rs) (i : Int) = eR1 (rs.getD i (false, [], [], [])) := atL_map _ rs i (false, [], [], []) (by omega)
    have hb : atL (eRs rs') (i : Int) = eR1 (rs'.getD i (false, [], [], [])) := atL_map _ rs' i (false, [], [], []) (by omega)
    simp (disch := omega) only [ha, hb, neR, eRs_len, ev_lt_t, ev_le_t, Bool.and_self, cond_true, w64]
    by_cases he : rs.getD i (false, [], [], []) = rs'.getD i (false, [], [], [])
    · rw [decide_eq_true he]
      exact .go ih
    · rw [decide_eq_false he]
      exact .ret
theorem rsS_loop (hw : ws.length = ws'.length) (sw : ws.length ≤ 1000000) (hr : rs.length = rs'.length) (sr : rs.length ≤ 1000000) (hg : gs.length = gs'.length) (sg : gs.length ≤ 1000000) : ∀ m i : Nat, i + m = gs.length → Runs (cfg []) (rsame_q11 (i : Nat) k a1 a2 a3 a4 a5 a6 a7 a8 a9 (eIs us) (eSs gs) (eRs rs) (eWs ws) k' a1' a2' a3' a4' a5' a6' a7' a8' a9' (eIs us') (eSs gs') (eRs rs') (eWs ws')) [.bool (decide (gs.drop i = gs'.drop i) && (decide (rs = rs') && (decide (ws = ws'))))]
  | 0, i, h => by
    refine Runs.by (rsame_p11 · _ _ _ _ _ _ _ _ _ _ _ _ _ _ _ _ _ _ _ _ _ _ _ _ _ _ _ _ _) ?_
    rw [drop_end (l := gs) (by omega), drop_end (l := gs') (by omega), eSs_len]
    rw [decide_eq_true (rfl : ([] : List W) = []), Bool.true_and]
    simp (disch := omega) only [ev_lt_f, cond_false]
    have := rsR_loop k a1 a2 a3 a4 a5 a6 a7 a8 a9 k' a1' a2' a3' a4' a5' a6' a7' a8' a9' us us' gs gs' rs rs' ws ws' hw sw hr sr rs.length 0 (Nat.zero_add _)
    rw [List.drop_zero, List.drop_zero] at this
    exact .go this
  | m + 1, i, h => by
    have ih := rsS_loop hw sw hr sr hg sg m (i + 1) (by omega)
    refine Runs.by (rsame_p11 · _ _ _ _ _ _ _ _ _ _ _ _ _ _ _ _ _ _ _ _ _ _ _ _ _ _ _ _ _) ?_
    rw [drop_at [] (show i < gs.length by omega), drop_at [] (show i < gs'.length by omega), cons_d]
    have ha : atL (eSs gs) (i : Int) = eS1 (gs.getD i []) := atL_map _ gs i [] (by omega)
    have hb : atL (eSs gs') (i : Int) = eS1 (gs'.getD i []) := atL_map _ gs' i [] (by omega)
    simp (disch := omega) only [ha, hb, neS, eSs_len, ev_lt_t, ev_le_t, Bool.and_self, cond_true, w64]
    by_cases he : gs.getD i [] = gs'.getD i []
    · rw [decide_eq_true he]
      exact .go ih
    · rw [decide_eq_false he]
      exact .ret
theorem rsI_loop (hw : ws.length = ws'.length) (sw : ws.length ≤ 1000000) (hr : rs.length = rs'.length) (sr : rs.length ≤ 1000000) (hg : gs.length = gs'.length) (sg : gs.length ≤ 1000000) (hu : us.length = us'.length) (su : us.length ≤ 1000000) : ∀ m i : Nat, i + m = us.length → Runs (cfg []) (rsame_q6 (i : Nat) k a1 a2 a3 a4 a5 a6 a7 a8 a9 (eIs us) (eSs gs) (eRs rs) (eWs ws) k' a1' a2' a3' a4' a5' a6' a7' a8' a9' (eIs us') (eSs gs') (eRs rs') (eWs ws')) [.bool (decide (us.drop i = us'.drop i) && (decide (gs = gs') && (decide (rs = rs') && (decide (ws = ws')))))]
  | 0, i, h => by
    refine Runs.by (rsame_p6 · _ _ _ _ _ _ _ _ _ _ _ _ _ _ _ _ _ _ _ _ _ _ _ _ _ _ _ _ _) ?_
    rw [drop_end (l := us) (by omega), drop_end (l := us') (by omega), eIs_len]
    rw [decide_eq_true (rfl : ([] : List Int) = []), Bool.true_and]
    simp (disch := omega) only [ev_lt_f, cond_false]
    have := rsS_loop k a1 a2 a3 a4 a5 a6 a7 a8 a9 k' a1' a2' a3' a4' a5' a6' a7' a8' a9' us us' gs gs' rs rs' ws ws' hw sw hr sr hg sg gs.length 0 (Nat.zero_add _)
    rw [List.drop_zero, List.drop_zero] at this
    exact .go this
  | m + 1, i, h => by
    have ih := rsI_loop hw sw hr sr hg sg hu su m (i + 1) (by omega)
    refine Runs.by (rsame_p6 · _ _ _ _ _ _ _ _ _ _ _ _ _ _ _ _ _ _ _ _ _ _ _ _ _ _ _ _ _) ?_
    rw [drop_at 0 (show i < us.length by omega), drop_at 0 (show i < us'.length by omega), cons_d]
    have ha : atL (eIs us) (i : Int) = eI1 (us.getD i 0) := atL_map _ us i 0 (by omega)
    have hb : atL (eIs us') (i : Int) = eI1 (us'.getD i 0) := atL_map _ us' i 0 (by omega)
    simp (disch := omega) only [ha, hb, neI, eIs_len, ev_lt_t, ev_le_t, Bool.and_self, cond_true, w64]
    by_cases he : us.getD i 0 = us'.getD i 0
    · rw [decide_eq_true he]
      exact .go ih
    · rw [decide_eq_false he]
      exact .ret
end
theorem len_ne {α : Type} [DecidableEq α] {l l' : List α} (h : ¬ l.length = l'.length) : decide (l = l') = false := decide_eq_false fun e => h (by rw [e])
theorem rsame_holds : Holds k_rsame := conEE_of (ks := []) hold0 fun a b g => by
  rw [ev_dec]
  obtain ⟨k, a1, a2, a3, a4, a5, a6, a7, a8, a9, us, gs, rs, ws⟩ := a
  obtain ⟨k', a1', a2', a3', a4', a5', a6', a7', a8', a9', us', gs', rs', ws'⟩ := b
  unfold smE at g
  simp only [Bool.and_eq_true] at g
  obtain ⟨⟨g1, g2⟩, g3, g4⟩ := g
  have g1 := sm_of g1
  have g2 := sm_of g2
  have g3 := sm_of g3
  have g4 := sm_of g4
  refine Runs.by (rsame_e · _ _ _ _ _ _ _ _ _ _ _ _ _ _ _ _ _ _ _ _ _ _ _ _ _ _ _ _) ?_
  simp only [bl_mk, eIs_len, eSs_len, eRs_len, eWs_len, bne]
  by_cases hu : us.length = us'.length
  · by_cases hg : gs.length = gs'.length
    · by_cases hr : rs.length = rs'.length
      · by_cases hw : ws.length = ws'.length
        · have lp := rsI_loop k (mk a1) (mk a2) (mk a3) a4 a5 a6 a7 (mk a8) (mk a9) k' (mk a1') (mk a2') (mk a3') a4' a5' a6' a7' (mk a8') (mk a9') us us' gs gs' rs rs' ws ws' hw (by omega) hr (by omega) hg (by omega) hu (by omega) us.length 0 (Nat.zero_add _)
          rw [List.drop_zero, List.drop_zero] at lp
          rw [hu, hg, hr, hw]
          simp only [beq_self_eq_true, Bool.not_true, cond_false]
          generalize (k == k') = c1
          generalize (a1 == a1') = c2
          generalize (a2 == a2') = c3
          generalize (a3 == a3') = c4
          generalize (a4 == a4') = c5
          generalize (a5 == a5') = c6
          generalize (a6 == a6') = c7
          generalize (a7 == a7') = c8
          generalize (a8 == a8') = c9
          generalize (a9 == a9') = c10
          cases c1
          · exact .ret
          cases c2
          · exact .ret
          cases c3
          · exact .ret
          cases c4
          · exact .ret
          cases c5
          · exact .ret
          cases c6
          · exact .ret
          cases c7
          · exact .ret
          cases c8
          · exact .ret
          cases c9
          · exact .ret
          cases c10
          · exact .ret
          simp only [Bool.true_and, Bool.not_true, cond_false]
          exact .go lp
        · rw [len_ne hw, show (((ws.length : Nat) : Int) == ((ws'.length : Nat) : Int)) = false from ev_eq_f (by omega)]
          simp only [Bool.not_false, cond_true, Bool.and_false]
          generalize (k == k') = c1
          generalize (a1 == a1') = c2
          generalize (a2 == a2') = c3
          generalize (a3 == a3') = c4
          generalize (a4 == a4') = c5
          generalize (a5 == a5') = c6
          generalize (a6 == a6') = c7
          generalize (a7 == a7') = c8
          generalize (a8 == a8') = c9
          generalize (a9 == a9') = c10
          cases c1
          · exact .ret
          cases c2
          · exact .ret
          cases c3
          · exact .ret
          cases c4
          · exact .ret
          cases c5
          · exact .ret
          cases c6
          · exact .ret
          cases c7
          · exact .ret
          cases c8
          · exact .ret
          cases c9
          · exact .ret
          cases c10
          · exact .ret
          simp only [Bool.not_true, cond_false]
          first | exact .ret | skip
          all_goals (refine RunsF.cond (fun _ => .ret) (fun _ => ?_))
          all_goals first | exact .ret | (refine RunsF.cond (fun _ => .ret) (fun _ => ?_); first | exact .ret | (refine RunsF.cond (fun _ => .ret) (fun _ => ?_); exact .ret))
      · rw [len_ne hr, show (((rs.length : Nat) : Int) == ((rs'.length : Nat) : Int)) = false from ev_eq_f (by omega)]
        simp only [Bool.not_false, cond_true, Bool.and_false, Bool.false_and]
        generalize (k == k') = c1
        generalize (a1 == a1') = c2
        generalize (a2 == a2') = c3
        generalize (a3 == a3') = c4
        generalize (a4 == a4') = c5
        generalize (a5 == a5') = c6
        generalize (a6 == a6') = c7
        generalize (a7 == a7') = c8
        generalize (a8 == a8') = c9
        generalize (a9 == a9') = c10
        cases c1
        · exact .ret
        cases c2
        · exact .ret
        cases c3
        · exact .ret
        cases c4
        · exact .ret
        cases c5
        · exact .ret
        cases c6
        · exact .ret
        cases c7
        · exact .ret
        cases c8
        · exact .ret
        cases c9
        · exact .ret
        cases c10
        · exact .ret
        simp only [Bool.not_true, cond_false]
        first | exact .ret | skip
        all_goals (refine RunsF.cond (fun _ => .ret) (fun _ => ?_))
        all_goals first | exact .ret | (refine RunsF.cond (fun _ => .ret) (fun _ => ?_); first | exact .ret | (refine RunsF.cond (fun _ => .ret) (fun _ => ?_); exact .ret))
    · rw [len_ne hg, show (((gs.length : Nat) : Int) == ((gs'.length : Nat) : Int)) = false from ev_eq_f (by omega)]
      simp only [Bool.not_false, cond_true, Bool.and_false, Bool.false_and]
      generalize (k == k') = c1
      generalize (a1 == a1') = c2
      generalize (a2 == a2') = c3
      generalize (a3 == a3') = c4
      generalize (a4 == a4') = c5
      generalize (a5 == a5') = c6
      generalize (a6 == a6') = c7
      generalize (a7 == a7') = c8
      generalize (a8 == a8') = c9
      generalize (a9 == a9') = c10
      cases c1
      · exact .ret
      cases c2
      · exact .ret
      cases c3
      · exact .ret
      cases c4
      · exact .ret
      cases c5
      · exact .ret
      cases c6
      · exact .ret
      cases c7
      · exact .ret
      cases c8
      · exact .ret
      cases c9
      · exact .ret
      cases c10
      · exact .ret
      simp only [Bool.not_true, cond_false]
      first | exact .ret | skip
      all_goals (refine RunsF.cond (fun _ => .ret) (fun _ => ?_))
      all_goals first | exact .ret | (refine RunsF.cond (fun _ => .ret) (fun _ => ?_); first | exact .ret | (refine RunsF.cond (fun _ => .ret) (fun _ => ?_); exact .ret))
  · rw [len_ne hu, show (((us.length : Nat) : Int) == ((us'.length : Nat) : Int)) = false from ev_eq_f (by omega)]
    simp only [Bool.not_false, cond_true, Bool.and_false, Bool.false_and]
    generalize (k == k') = c1
    generalize (a1 == a1') = c2
    generalize (a2 == a2') = c3
    generalize (a3 == a3') = c4
    generalize (a4 == a4') = c5
    generalize (a5 == a5') = c6
    generalize (a6 == a6') = c7
    generalize (a7 == a7') = c8
    generalize (a8 == a8') = c9
    generalize (a9 == a9') = c10
    cases c1
    · exact .ret
    cases c2
    · exact .ret
    cases c3
    · exact .ret
    cases c4
    · exact .ret
    cases c5
    · exact .ret
    cases c6
    · exact .ret
    cases c7
    · exact .ret
    cases c8
    · exact .ret
    cases c9
    · exact .ret
    cases c10
    · exact .ret
    simp only [Bool.not_true, cond_false]
    first | exact .ret | skip
    all_goals (refine RunsF.cond (fun _ => .ret) (fun _ => ?_))
    all_goals first | exact .ret | (refine RunsF.cond (fun _ => .ret) (fun _ => ?_); first | exact .ret | (refine RunsF.cond (fun _ => .ret) (fun _ => ?_); exact .ret))
end Go.Ab
namespace Go.Ab
open Go.Proofs

theorem Itoa_holds : Holds k_Itoa := extFor_tabs (C := cfg []) (fn := Tryz.f23) (t := 9) (k := .str) Tryz.func23 rfl kinds9 agg9 (by simp) fun aa hp r h => by
  simp only [k_Itoa] at h
  split at h
  case h_2 => cases h
  rename_i n
  obtain ⟨g, rfl⟩ := xo h
  obtain ⟨g1, g2⟩ := i64B_of g
  refine ⟨_, rfl, rfl, ⟨_, rfl⟩, fun w fz ρ vs ht ha => ⟨_, fun w' => .str _, ?_⟩⟩
  rw [args_i ha]
  have htab : Lib.TabIs Tryz.prog w "internal/strconv.uint64pow10" .u64 Lib.pow10Tab := by
    obtain ⟨cs, h1, h2⟩ := ht ("internal/strconv.uint64pow10", fun cs => cs = (Lib.pow10Tab.map fun z => Value.int .u64 z).toArray) (by
      show _ ∈ tabsL
      simp [tabsL])
    have h2' : cs = (Lib.pow10Tab.map fun z => Value.int .u64 z).toArray := h2
    subst h2'
    exact h1
  refine (Tryz.strconv_Itoa n g1 g2 w htab).mono ?_
  rintro e w' ⟨rfl, k, os, rfl⟩
  exact ⟨rfl, Lib.below_grow _ _ (Nat.le_refl _) _ _⟩
theorem cellq_lt {w : World} {a : Addr} {v : Value} (h : w.cell? a = some v) : a.block < w.heap.size := by
  unfold World.cell? at h
  split at h
  · rename_i cs t fr e
    exact (Array.getElem?_eq_some_iff.1 e).1
  · cases h
theorem add_plain (b o j : Nat) : (⟨b, o, none⟩ : Addr).add j = ⟨b, o + j, none⟩ := by
  unfold Addr.add
  split
  · rename_i h; simp_all
  · rfl
theorem conf9 {P : Program} (hk : kinds P 9 = [.str]) {e : List L} (h : Conf P 9 e) : e = [L.str (cT 0 e)] := by
  unfold Conf at h
  rw [hk] at h
  match e, h with
  | [l], h =>
    obtain ⟨⟨s, rfl⟩, _⟩ := h
    rfl
theorem strs_of {P : Program} (hk : kinds P 9 = [.str]) : ∀ xs : List (List L), (∀ e ∈ xs, Conf P 9 e) → xs = (xs.map (cT 0)).map fun s => [L.str s]
  | [], _ => rfl
  | e :: xs, h => by
    have h1 := conf9 hk (h e List.mem_cons_self)
    have h2 := strs_of hk xs fun e he => h e (List.mem_cons_of_mem _ he)
    rw [List.map_cons, List.map_cons, ← h2, ← h1]
theorem flat_strs : ∀ l : List ByteArray, (l.map fun s => [L.str s]).flatten = l.map L.str
  | [] => rfl
  | a :: l => by rw [List.map_cons, List.flatten_cons, flat_strs l]; rfl
theorem flat_at {P : Program} (hk : kinds P 9 = [.str]) {xs : List (List L)} (h : ∀ e ∈ xs, Conf P 9 e) (j : Nat) (s : ByteArray) (hj : (xs.map (cT 0))[j]? = some s) : xs.flatten[j]? = some (L.str s) := by
  have e := strs_of hk xs h
  have e2 : xs.flatten = (xs.map (cT 0)).map L.str := (congrArg List.flatten e).trans (flat_strs _)
  rw [e2, List.getElem?_map, hj]; rfl
theorem strs_cells {C : Cfg} (hk : kinds C.P 9 = [.str]) {w : World} {fz : Fz} {ρ : Rho} {v : Value} {xs : List (List L)} (h : Rep C.P w fz ρ v (.lst 9 xs)) :
    ∃ A n c, v = .slice A n c ∧ n = xs.length ∧ n ≤ c ∧ (xs ≠ [] → ∃ bk o, A = some ⟨bk, o, none⟩ ∧ bk < w.heap.size ∧ ∀ (j : Nat) x, (xs.map (cT 0))[j]? = some x → w.cell? ⟨bk, o + j, none⟩ = some (.string x)) := by
  cases h with
  | lst A n c _ _ u ad e1 e2 e3 e4 e5 e6 e7 =>
    refine ⟨A, n, c, rfl, e1, e2, fun hx => ?_⟩
    have := e4 hx
    subst this
    have hcell : ∀ j s, (xs.map (cT 0))[j]? = some s → w.cell? (ad.add j) = some (.string s) := fun j s hj => by
      have h := flat_at hk e3 j s hj
      rw [e5 j _ h, rep_str (e7 j _ h)]
    have hlen : 0 < xs.length := List.length_pos_iff.2 hx
    obtain ⟨bk, o, sp⟩ := ad
    have h0 := hcell 0 ((xs.map (cT 0))[0]'(by simpa using hlen)) (List.getElem?_eq_getElem _)
    have hsp : sp = none := by
      have h0' : w.cell? ⟨bk, o, sp⟩ = some (Value.string ((xs.map (cT 0))[0]'(by simpa using hlen))) := by simpa [Addr.add] using h0
      unfold World.cell? at h0'
      split at h0'
      · split at h0'
        · cases h0'
        · rename_i hn; simpa using hn
      · cases h0'
    subst hsp
    have hb := cellq_lt h0
    have hb' : bk < w.heap.size := by simpa [Addr.add] using hb
    exact ⟨bk, o, rfl, hb', fun j x hj => by have := hcell j x hj; rwa [add_plain] at this⟩
theorem join_jn (l : List W) : Lib.join l [32] = jn l := by
  match l with
  | [] => rfl
  | [a] => simp [Lib.join_one, jn]
  | a :: b :: l =>
    have ih := join_jn (b :: l)
    have e : Lib.join (a :: b :: l) [32] = a ++ [32] ++ Lib.join (b :: l) [32] := by simp [Lib.join, List.intercalate, List.intersperse]
    rw [e, ih]
    simp [jn]
theorem Join_holds : Holds k_Join := extFor_below (C := cfg []) (fn := Tryz.f24) (t := 9) (k := .str) Tryz.func24 rfl (by kernel_rfl) (by kernel_rfl) (by simp) fun aa hp r h => by
  simp only [k_Join] at h
  split at h
  case h_2 => cases h
  rename_i xs sep
  obtain ⟨g, rfl⟩ := xo h
  rw [Bool.and_eq_true] at g
  obtain ⟨g1, g2⟩ := g
  have g1 := Nat.le_of_ble_eq_true g1
  rw [Bool.and_eq_true] at g2
  obtain ⟨g2, g3⟩ := g2
  have g2 := Nat.le_of_ble_eq_true g2
  have g3 : bl sep = [32] := by simpa using g3
  refine ⟨_, rfl, rfl, ⟨_, rfl⟩, fun w fz ρ vs ha => ⟨.string (mk (jn (dSs xs))), fun _ => .str _, ?_⟩⟩
  match hv : vs.toList, ha with
  | [a, b], ha =>
    simp only [RepDs, RepD] at ha
    obtain ⟨h1, h2, _⟩ := ha
    rw [arr2 hv, rep_str h2]
    obtain ⟨A, n, c, rfl, e1, e2, e3⟩ := strs_cells (C := cfg []) kinds9 h1
    subst e1
    by_cases hx : xs = []
    · subst hx
      refine (Tryz.strings_Join_none A c sep w).mono ?_
      rintro e w' ⟨rfl, rfl⟩
      exact ⟨rfl, Go.RowKit.Below.refl _ _⟩
    · obtain ⟨bk, o, rfl, hb, hc⟩ := e3 hx
      have ej : Lib.join ((xs.map (cT 0)).map (·.data.toList)) sep.data.toList = jn (dSs xs) := by
        have e3 : sep.data.toList = [32] := g3
        rw [List.map_map, e3]
        exact join_jn _
      have hj := Tryz.strings_Join bk o c (xs.map (cT 0)) sep w hc hb (by rw [List.length_map]; omega) (by simpa using e2) (by rw [ej]; omega)
      rw [List.length_map, ej] at hj
      refine hj.mono ?_
      rintro e w' ⟨rfl, hbel⟩
      exact ⟨rfl, hbel⟩

theorem splitK_spl (c : UInt8) : ∀ (l : List UInt8), Lib.splitK [c] 0 (Lib.count l [c]) l = spl c l
  | [] => by
    rw [Lib.count_miss (by rfl)]
    rfl
  | x :: l => by
    have ih := splitK_spl c l
    by_cases h : x = c
    · subst h
      have hi := index_eq' x l
      rw [Lib.count_hit (i := 0) (by simp) hi]
      simp only [Nat.zero_add, List.length_singleton, List.drop_succ_cons, List.drop_zero]
      rw [Nat.add_comm 1, Lib.splitK, hi, spl, if_pos rfl]
      simp [ih]
    · have hi := index_ne x c l h
      rw [spl, if_neg h]
      by_cases hm : Lib.index l [c] = -1
      · rw [if_pos hm] at hi
        rw [Lib.count_miss hm] at ih
        rw [Lib.count_miss hi, Lib.splitK, ← ih, Lib.splitK]
      · rw [if_neg hm] at hi
        obtain ⟨i, hi'⟩ : ∃ i : Nat, Lib.index l [c] = i := by
          have := Lib.index_ge l [c]
          exact ⟨(Lib.index l [c]).toNat, by omega⟩
        rw [hi'] at hi
        have hi2 : Lib.index (x :: l) [c] = ((i + 1 : Nat) : Int) := by omega
        rw [Lib.count_hit (by simp) hi2, Nat.add_comm 1, Lib.splitK, hi2]
        rw [Lib.count_hit (by simp) hi', Nat.add_comm 1, Lib.splitK, hi'] at ih
        have e1 : ((((i + 1 : Nat) : Int)) == -1) = false := by simp; omega
        have e2 : (((i : Nat) : Int) == -1) = false := by simp
        simp only [e1, e2, Bool.false_eq_true, if_false, Int.toNat_natCast, Nat.add_zero, List.length_singleton] at ih ⊢
        rw [← ih]
        simp only [List.take_succ_cons, List.drop_succ_cons]
theorem split_ext {C : Cfg} {fn : Func} (hf : C.P.funcs[(18 : Nat)]? = some fn) (hr : fn.resultTypes = #[36]) (hk36 : kinds C.P 36 = [.sl 9]) (hag : isAggT C.P 36 = false) (hk9 : kinds C.P 9 = [.str]) (ho : C.own 18 = false)
    (hm : ∀ (w : World) (S : Nat → Prop), Tabs C w S → ∃ m, w.cell? ⟨0, 0, none⟩ = some (.int .i64 m))
    (c : ∀ (s sep : ByteArray) (m : Int) (w : World), s.size < 4294967281 → w.cell? ⟨0, 0, none⟩ = some (.int .i64 m) → 1 ≤ sep.size → Calls C.P 18 #[.string s, .string sep] w fun e w' =>
      e = .returned (.slice (some ⟨w.heap.size, 0, none⟩) (Lib.countB s sep + 1) (Lib.countB s sep + 1)) ∧ w' = w.alloc (.cells ((Lib.splitB sep 0 (Lib.countB s sep) s).map Value.string).toArray 9)) : ExtFor C 18 k_Split.2 := by
  intro aa hp r hs w fz ρ S vs hT H hargs
  simp only [k_Split] at hs
  split at hs
  case h_2 => cases hs
  rename_i s sep
  obtain ⟨hg, rfl⟩ := xo hs
  rw [Bool.and_eq_true] at hg
  have h1 := Nat.le_of_ble_eq_true hg.1
  have h2 : sep.size = 1 := by simpa using hg.2
  obtain ⟨m, hcm⟩ := hm w S hT
  rw [args_ss hargs]
  refine (c s sep m w (by omega) hcm (by omega)).mono ?_
  rintro e w' ⟨rfl, rfl⟩
  have hn := Lib.splitB_all sep (by omega) 0 _ s rfl
  have hd := Lib.splitB_data sep 0 (Lib.countB s sep) s
  obtain ⟨ch, hch⟩ : ∃ ch, bl sep = [ch] := by
    have : (bl sep).length = 1 := (bl_size sep).trans h2
    match hb : bl sep, this with
    | [x], _ => exact ⟨x, rfl⟩
  have hc : Lib.countB s sep = Lib.count (bl s) [ch] := by
    show Lib.count (bl s) (bl sep) = _
    rw [hch]
  have hd' : (Lib.splitB sep 0 (Lib.countB s sep) s).map bl = spl ch (bl s) := by
    rw [← splitK_spl, ← hc, ← hch]
    exact hd
  generalize Lib.splitB sep 0 (Lib.countB s sep) s = ps at *
  have hxs : eSs (spl ch (bl s)) = ps.map fun p => [L.str p] := by
    rw [← hd']
    unfold eSs
    rw [List.map_map]
    rfl
  rw [hch]
  simp only [List.getD_cons_zero, hxs]
  have hfl : (ps.map fun p => [L.str p]).flatten = ps.map L.str := by
    clear hd hd' hxs hn
    induction ps with
    | nil => rfl
    | cons p ps ih => rw [List.map_cons, List.flatten_cons, ih]; rfl
  let w' := w.alloc (.cells (ps.map Value.string).toArray 9)
  have hold : ∀ k, k < w.heap.size → w'.heap[k]? = w.heap[k]? := fun k hk => heap_alloc_old w _ hk
  have hnew : w'.heap[w.heap.size]? = some (.cells (ps.map Value.string).toArray 9 (0, 0)) := heap_alloc_new w _
  have hsz : w'.heap.size = w.heap.size + 1 := by simp [w']
  let fz' : Fz := fun g o => fz g o ∨ g = w.heap.size
  have hcell : ∀ (k : Nat) l, (ps.map L.str)[k]? = some l → ∃ p, ps[k]? = some p ∧ l = .str p := by
    intro k l hl
    rw [List.getElem?_map, Option.map_eq_some_iff] at hl
    obtain ⟨p, h1, h2⟩ := hl
    exact ⟨p, h1, h2.symm⟩
  refine ⟨_, fz', rfl, ⟨rfl, rfl, rfl, by show w.heap.size ≤ w'.heap.size; rw [hsz]; omega, fun k hk _ => hold k hk, fz_cell H.lt hold, ⟨fun g o h => .inl h, fun g o h => h.imp id fun e => .inr (Nat.le_of_eq e.symm)⟩⟩, fun g o h => ?_, fn, [.slice (some ⟨w.heap.size, 0, none⟩) (Lib.countB s sep + 1) (Lib.countB s sep + 1)], [.slice (some ⟨w.heap.size, 0, none⟩) (Lib.countB s sep + 1) (Lib.countB s sep + 1)], [], [], [], hf, rfl, ?_, ?_, ?_, by simp, by simp⟩
  · show g < w'.heap.size
    rw [hsz]
    rcases h with h | h
    · have := H.lt g o h
      omega
    · have h' : g = w.heap.size := h
      omega
  · rw [hr]
    exact ⟨[.slice (some ⟨w.heap.size, 0, none⟩) (Lib.countB s sep + 1) (Lib.countB s sep + 1)], [], rfl, by rw [hk36]; rfl, by rw [hk36]; decide, by rw [hag]; rfl, rfl⟩
  · rw [hr]
    simp only [List.flatMap_cons, List.flatMap_nil, hk36, List.append_nil, Bk, ho, Bool.false_eq_true, if_false]
    refine ⟨⟨_, rfl⟩, .lst _ _ _ 9 _ (fun k => .string (ps.getD k ByteArray.empty)) ⟨w.heap.size, 0, none⟩ ?_ (Nat.le_refl _) ?_ (fun _ => rfl) ?_ ?_ ?_, trivial⟩
    · rw [List.length_map, hn]
    · intro e he
      obtain ⟨p, _, rfl⟩ := List.mem_map.1 he
      unfold Conf
      rw [hk9]
      exact ⟨⟨p, rfl⟩, trivial⟩
    · intro k l hl
      rw [hfl] at hl
      obtain ⟨p, hp, rfl⟩ := hcell k l hl
      rw [add_zero', cell_box hnew]
      simp [List.getD, hp]
    · intro k l hl
      rw [add_zero']
      exact .inr rfl
    · intro k l hl
      rw [hfl] at hl
      obtain ⟨p, hp, rfl⟩ := hcell k l hl
      have : ps.getD k ByteArray.empty = p := by simp [List.getD, hp]
      rw [this]
      exact .str p
  · exact ⟨rfl, rfl⟩
theorem rt18 : Tryz.f18.resultTypes = #[36] := by kernel_rfl
theorem kinds36 : kinds (cfg []).P 36 = [.sl 9] := by kernel_rfl
theorem agg36 : isAggT (cfg []).P 36 = false := by kernel_rfl
theorem Split_holds : Holds k_Split := split_ext (C := cfg []) Tryz.func18 rt18 kinds36 agg36 kinds9 rfl maxlen_c (fun s sep m w h1 h2 h3 => Tryz.strings_Split s sep m w h1 h2 h3)

theorem contains_10 : ∀ l : W, Lib.contains l [10] = l.contains 10
  | [] => rfl
  | x :: l => by
    have ih := contains_10 l
    unfold Lib.contains at ih ⊢
    by_cases h : x = 10
    · subst h
      rw [index_eq']
      simp
    · rw [index_ne x 10 l h]
      have hge := Lib.index_ge l [10]
      have hb : ((10 : UInt8) == x) = false := by simpa using fun e : (10 : UInt8) = x => h e.symm
      rw [List.contains_cons, hb, Bool.false_or, ← ih]
      by_cases hm : Lib.index l [10] = -1
      · rw [if_pos hm, hm]
      · rw [if_neg hm]
        exact decide_eq_decide.2 ⟨fun _ => by omega, fun _ => by omega⟩
theorem Cont_ext {C : Cfg} {fn : Func} (hf : C.P.funcs[(33 : Nat)]? = some fn) (hr : fn.resultTypes = #[4]) (hk4 : kinds C.P 4 = [.bool]) (ha4 : isAggT C.P 4 = false)
    (hm : ∀ (w : World) (S : Nat → Prop), Tabs C w S → ∃ m, w.cell? ⟨0, 0, none⟩ = some (.int .i64 m))
    (c : ∀ (s sub : ByteArray) (m : Int) (w : World), s.size < 4294967281 → w.cell? ⟨0, 0, none⟩ = some (.int .i64 m) → Calls C.P 33 #[.string s, .string sub] w fun e w' => e = .returned (.bool (Lib.contains s.data.toList sub.data.toList)) ∧ w' = w) : ExtFor C 33 k_Cont.2 := by
  intro aa hp r hs w fz ρ S vs hT H hargs
  simp only [k_Cont] at hs
  split at hs
  case h_2 => cases hs
  rename_i s sep
  obtain ⟨hg, rfl⟩ := xo hs
  rw [Bool.and_eq_true] at hg
  have h1 := Nat.le_of_ble_eq_true hg.1
  have h2 : bl sep = [10] := by simpa using hg.2
  obtain ⟨m, hcm⟩ := hm w S hT
  rw [args_ss hargs]
  refine (c s sep m w (by omega) hcm).mono ?_
  rintro e w' ⟨rfl, rfl⟩
  have e1 : Lib.contains s.data.toList sep.data.toList = (bl s).contains 10 := by
    have e3 : sep.data.toList = [10] := h2
    rw [e3]
    exact contains_10 _
  rw [e1]
  exact ⟨_, fz, rfl, endOk_plain H.lt hf hr hk4 ha4 (by simp) ⟨_, rfl⟩ (.bool _)⟩
theorem rt33 : Tryz.f33.resultTypes = #[4] := by kernel_rfl
theorem Cont_holds : Holds k_Cont := Cont_ext (C := cfg []) Tryz.func33 rt33 kinds4 agg4 maxlen_c (fun s sub m w h1 h2 => Tryz.strings_Contains s sub m w h1 h2)
theorem pquote_holds : Holds k_pquote := extFor_below (C := cfg []) (fn := Tryz.f32) (t := 9) (k := .str) Tryz.func32 (by kernel_rfl) kinds9 agg9 (by simp) fun aa hp r h => by
  simp only [k_pquote, conT] at h
  split at h
  case h_2 => cases h
  rename_i s
  obtain ⟨g, rfl⟩ := xo h
  refine ⟨_, rfl, rfl, ⟨_, rfl⟩, fun w fz ρ vs ha => ⟨.string (mk (qt (bl s))), fun _ => .str _, ?_⟩⟩
  match hv : vs.toList, ha with
  | [a], ha =>
    simp only [RepDs, RepD] at ha
    rw [arr1 hv, rep_str ha.1]
    refine (rQuote s w (by have := sm_of g; rw [bl_size] at this; exact this)).mono ?_
    rintro e w' ⟨rfl, hb⟩
    exact ⟨rfl, hb⟩
end Go.Ab
namespace Go.Ab
open Go.Proofs

theorem nb {n m : Nat} (h : n ≤ m) : Nat.ble n m = true := Nat.ble_eq_true_of_le h
theorem add_holds : Holds k_add := con_run (xs := []) hold0 fun aa hp r h => by
  split at h
  case h_2 => cases h
  rename_i xs ls
  obtain ⟨g, rfl⟩ := xo h
  rw [Bool.and_eq_true] at g
  have g1 := sm_of g.1
  have g2 := Nat.le_of_ble_eq_true g.2
  refine Runs.by (padd_e · _ _) ?_
  rw [roomN_t (by omega) (by omega)]
  exact .ret
theorem num_holds : Holds k_num := con_run (xs := [k_add, k_Itoa]) (hold1 add_holds (hold1 Itoa_holds hold0)) fun aa hp r h => by
  split at h
  case h_4 => cases h
  · rename_i a ls
    obtain ⟨g, rfl⟩ := xo h
    simp only [Bool.and_eq_true] at g
    have g2 := Nat.le_of_ble_eq_true g.2
    refine Runs.by (pnum1_e · _ _) ?_
    rw [dupN_eq, g.1, nb (show ls.length ≤ 100000000 by omega)]
    exact .ret
  · rename_i a b ls
    obtain ⟨g, rfl⟩ := xo h
    simp only [Bool.and_eq_true] at g
    have g2 := Nat.le_of_ble_eq_true g.2
    refine Runs.by (pnum2_e · _ _ _) ?_
    simp only [dupN_eq, g.1.1, g.1.2, List.length_append, List.length_cons, List.length_nil, nb (show ls.length ≤ 100000000 by omega), nb (show ls.length + (0 + 1) ≤ 100000000 by omega)]
    exact .ret' (by simp [nmR, eSs, eS1])
  · rename_i a b c ls
    obtain ⟨g, rfl⟩ := xo h
    simp only [Bool.and_eq_true] at g
    have g2 := Nat.le_of_ble_eq_true g.2
    refine Runs.by (pnum3_e · _ _ _ _) ?_
    simp only [dupN_eq, g.1.1, g.1.2, List.length_append, List.length_cons, List.length_nil, nb (show ls.length ≤ 100000000 by omega), nb (show ls.length + (0 + 1) ≤ 100000000 by omega), nb (show ls.length + (0 + 1) + (0 + 1) ≤ 100000000 by omega)]
    exact .ret' (by simp [nmR, eSs, eS1])

theorem jn_cons (a : W) (l : List W) : jn (a :: l) = a ++ l.flatMap fun w => 32 :: w := rfl
theorem tl_len (l : List W) : (l.flatMap fun w => (32 : UInt8) :: w).length = (l.map fun w => w.length + 1).sum := by
  induction l with
  | nil => rfl
  | cons a l ih => simp only [List.flatMap_cons, List.length_append, List.length_cons, List.map_cons, List.sum_cons, ih]
def wl (l : List W) : Nat := (l.map fun w => w.length + 1).sum
theorem wl_cons (a : W) (l : List W) : wl (a :: l) = a.length + 1 + wl l := by unfold wl; simp
theorem wl_app (l m : List W) : wl (l ++ m) = wl l + wl m := by unfold wl; simp
theorem wl_nil : wl [] = 0 := rfl
theorem wl_jn (l : List W) : wl l ≤ (jn l).length + 1 := by
  cases l with
  | nil => simp [wl]
  | cons a l =>
    rw [jn_cons, List.length_append, tl_len, wl_cons]
    unfold wl; omega
theorem jn_wl (l : List W) : (jn l).length ≤ wl l := by
  cases l with
  | nil => simp [wl, jn]
  | cons a l =>
    rw [jn_cons, List.length_append, tl_len, wl_cons]
    unfold wl; omega
theorem len_wl (l : List W) : l.length ≤ wl l := by
  induction l with
  | nil => simp
  | cons a l ih => rw [wl_cons, List.length_cons]; omega
theorem qt_len (s : W) : s.length + 2 ≤ (qt s).length := by
  unfold qt
  have := qB_len s
  simp; omega
theorem mem_wl {a : W} {l : List W} (h : a ∈ l) : a.length + 1 ≤ wl l := by
  induction l with
  | nil => cases h
  | cons b l ih =>
    rw [wl_cons]
    rcases List.mem_cons.1 h with rfl | h
    · omega
    · have := ih h; omega
theorem fm_cons {α : Type} (f : α → List W) (x : α) (l : List α) : (x :: l).flatMap f = f x ++ l.flatMap f := List.flatMap_cons ..
noncomputable abbrev ck : Cfg := cfg [k_add, k_num, k_pquote]
theorem eSs_app (a b : List W) : eSs a ++ eSs b = eSs (a ++ b) := (List.map_append ..).symm
theorem app_eSs (ls : List (List L)) (a b : List W) : ls ++ eSs a ++ eSs b = ls ++ eSs (a ++ b) := by rw [List.append_assoc, eSs_app]

theorem l16 (ws : List Wr) (hl : ws.length ≤ 1000000) : ∀ (m i : Nat) (ls : List (List L)), i + m = ws.length → ls.length ≤ 10000000 → wl ((ws.drop i).flatMap wW) ≤ 1000001 → ls.length + wl ((ws.drop i).flatMap wW) ≤ 10000000 →
    Runs ck (listed_q16 (eWs ws) (ws.length : Nat) (i : Nat) ls) [.lst 9 (ls ++ eSs ((ws.drop i).flatMap wW)), .any]
  | 0, i, ls, h, h1, h2, h3 => by
    refine Runs.by (listed_p16 · _ _ _ _) ?_
    rw [drop_end (l := ws) (by omega)]
    simp (disch := omega) only [ev_lt_f, cond_false]
    exact .ret' (by simp [eSs])
  | m + 1, i, ls, h, h1, h2, h3 => by
    have hi : i < ws.length := by omega
    rw [drop_at ([], [], false) hi, fm_cons, wl_app] at h2 h3
    rw [drop_at ([], [], false) hi, fm_cons]
    have ha : atL (eWs ws) (i : Int) = eW1 (ws.getD i ([], [], false)) := atL_map _ ws i _ hi
    refine Runs.by (listed_p16 · _ _ _ _) ?_
    simp (disch := omega) only [ha, eWs_len, ev_lt_t, ev_le_t, Bool.and_self, cond_true, w64, dupN_eq, nb (show ls.length ≤ 100000000 by omega), Bool.and_true]
    generalize ws.getD i ([], [], false) = x at *
    obtain ⟨p, t, gone⟩ := x
    cases gone
    · have hw : wW (p, t, false) = [wPut, p, qt t] := rfl
      rw [hw, wl_cons, wl_cons, wl_cons, wl_nil] at h2 h3
      have hq := qt_len t
      have ih := l16 ws hl m (i + 1) (ls ++ eSs [wPut, p, qt t]) (by omega) (by simp [eSs]; omega) (by omega) (by simp [eSs]; omega)
      rw [app_eSs] at ih
      show RunsF _ (fun G => cond (sm t.length) _ none) _
      rw [sm_t (show t.length ≤ 1000000 by omega), hw]
      exact .go ih
    · have hw : wW (p, t, true) = [wDel, p] := rfl
      rw [hw, wl_cons, wl_cons, wl_nil] at h2 h3
      have ih := l16 ws hl m (i + 1) (ls ++ eSs [wDel, p]) (by omega) (by simp [eSs]; omega) (by omega) (by simp [eSs]; omega)
      rw [app_eSs] at ih
      rw [hw]
      exact .go ih
theorem l31 (gs : List W) (hl : gs.length ≤ 1000000) : ∀ (m i : Nat) (ls : List (List L)), i + m = gs.length → ls.length + wl ((gs.drop i).flatMap fun g => [wGroup, g]) ≤ 10000000 →
    Runs ck (listed_q31 (eSs gs) (gs.length : Nat) (i : Nat) ls) [.lst 9 (ls ++ eSs ((gs.drop i).flatMap fun g => [wGroup, g])), .any]
  | 0, i, ls, h, h3 => by
    refine Runs.by (listed_p31 · _ _ _ _) ?_
    rw [drop_end (l := gs) (by omega)]
    simp (disch := omega) only [ev_lt_f, cond_false]
    exact .ret' (by simp [eSs])
  | m + 1, i, ls, h, h3 => by
    have hi : i < gs.length := by omega
    rw [drop_at [] hi, fm_cons, wl_app, wl_cons, wl_cons, wl_nil] at h3
    rw [drop_at [] hi, fm_cons]
    have ha : atL (eSs gs) (i : Int) = eS1 (gs.getD i []) := atL_map _ gs i _ hi
    refine Runs.by (listed_p31 · _ _ _ _) ?_
    simp (disch := omega) only [ha, eSs_len, ev_lt_t, ev_le_t, Bool.and_self, cond_true, w64, nb (show ls.length ≤ 100000000 by omega), Bool.and_true]
    have ih := l31 gs hl m (i + 1) (ls ++ eSs [wGroup, gs.getD i []]) (by omega) (by simp only [eSs, List.length_append, List.length_map, List.length_cons, List.length_nil]; omega)
    rw [app_eSs] at ih
    exact .go ih
theorem l25 (k : Int) (a1 a2 a3 : ByteArray) (a4 a5 a6 a7 : Int) (a8 a9 : ByteArray) (us : List Int) (gs : List W) (rs ws : List (List L)) (hl : us.length ≤ 1000000) (hl2 : gs.length ≤ 1000000) (hu : us.all i64B = true) : ∀ (m i : Nat) (ls : List (List L)), i + m = us.length →
    ls.length + wl ((us.drop i).flatMap (fun u => [wUser, it u]) ++ gs.flatMap fun g => [wGroup, g]) ≤ 10000000 - 1000 →
    Runs ck (listed_q25 (eIs us) (us.length : Nat) (i : Nat) k a1 a2 a3 a4 a5 a6 a7 a8 a9 (eIs us) (eSs gs) rs ws ls) [.lst 9 (ls ++ eSs ((us.drop i).flatMap (fun u => [wUser, it u]) ++ gs.flatMap fun g => [wGroup, g])), .any]
  | 0, i, ls, h, h3 => by
    refine Runs.by (listed_p25 · _ _ _ _ _ _ _ _ _ _ _ _ _ _ _ _ _ _) ?_
    rw [drop_end (l := us) (by omega)] at h3 ⊢
    have := l31 gs hl2 gs.length 0 ls (Nat.zero_add _) (by rw [List.drop_zero]; simp only [List.flatMap_nil, List.nil_append] at h3; omega)
    rw [List.drop_zero] at this
    simp (disch := omega) only [ev_lt_f, cond_false, eSs_len]
    exact .go this
  | m + 1, i, ls, h, h3 => by
    have hi : i < us.length := by omega
    rw [drop_at 0 hi, fm_cons, List.append_assoc, wl_app, wl_cons, wl_cons, wl_nil] at h3
    rw [drop_at 0 hi, fm_cons]
    have ha : atL (eIs us) (i : Int) = eI1 (us.getD i 0) := atL_map _ us i _ hi
    have hm : us.getD i 0 ∈ us := by simp [List.getD, List.getElem?_eq_getElem hi]
    have hb := List.all_eq_true.1 hu _ hm
    refine Runs.by (listed_p25 · _ _ _ _ _ _ _ _ _ _ _ _ _ _ _ _ _ _) ?_
    have e0 : cI 0 (eI1 (us.getD i 0)) = us.getD i 0 := rfl
    simp (disch := omega) only [ha, e0, hb, eIs_len, ev_lt_t, ev_le_t, Bool.and_self, cond_true, w64, nb (show ls.length ≤ 100000000 by omega), List.length_append, List.length_cons, List.length_nil, nb (show ls.length + (0 + 1) ≤ 10000000 by omega)]
    have ih := l25 k a1 a2 a3 a4 a5 a6 a7 a8 a9 us gs rs ws hl hl2 hu m (i + 1) (ls ++ eSs [wUser, it (us.getD i 0)]) (by omega) (by simp only [eSs, List.length_append, List.length_map, List.length_cons, List.length_nil]; omega)
    rw [app_eSs] at ih
    rw [show ls ++ [[L.str (mk [117, 115, 101, 114])]] ++ eSs (List.map it [us.getD i 0]) = ls ++ eSs [wUser, it (us.getD i 0)] from by simp [eSs, eS1], List.append_assoc]
    exact .go ih
theorem rule_runs (x : Ru) (ls : List (List L)) (Q : List (List L) → Req) (T : List L) (hl : ls.length ≤ 100000000) (h : Runs ck (Q (ls ++ eSs (wR x))) T) :
    RunsF ck (fun G => cond (cO 0 (eR1 x))
      (cond (bl (cT 2 (eR1 x)) == bl (mk []))
       (cond (sm 4 && Nat.ble ls.length 100000000) (G (Q (ls ++ [[L.str (mk [97, 108, 108, 111, 119])], [L.str (cT 1 (eR1 x))], [L.str (mk [45])], [L.str (cT 3 (eR1 x))]]))) none)
       (cond (sm 4 && Nat.ble ls.length 100000000) (G (Q (ls ++ [[L.str (mk [97, 108, 108, 111, 119])], [L.str (cT 1 (eR1 x))], [L.str (cT 2 (eR1 x))], [L.str (cT 3 (eR1 x))]]))) none))
      (cond (bl (cT 2 (eR1 x)) == bl (mk []))
       (cond (sm 4 && Nat.ble ls.length 100000000) (G (Q (ls ++ [[L.str (mk [100, 101, 110, 121])], [L.str (cT 1 (eR1 x))], [L.str (mk [45])], [L.str (cT 3 (eR1 x))]]))) none)
       (cond (sm 4 && Nat.ble ls.length 100000000) (G (Q (ls ++ [[L.str (mk [100, 101, 110, 121])], [L.str (cT 1 (eR1 x))], [L.str (cT 2 (eR1 x))], [L.str (cT 3 (eR1 x))]]))) none))) T := by
  obtain ⟨a, g, r, gl⟩ := x
  rw [nb hl]
  have e2 : (bl (cT 2 (eR1 (a, g, r, gl))) == bl (mk [])) = r.isEmpty := beq_nil r
  rw [e2]
  cases a
  · cases hr : r.isEmpty
    · have e : wR (false, g, r, gl) = [wDeny, g, r, gl] := by unfold wR rq; rw [hr]; rfl
      rw [e] at h
      exact .go h
    · have e : wR (false, g, r, gl) = [wDeny, g, [45], gl] := by unfold wR rq; rw [hr]; rfl
      rw [e] at h
      exact .go h
  · cases hr : r.isEmpty
    · have e : wR (true, g, r, gl) = [wAllow, g, r, gl] := by unfold wR rq; rw [hr]; rfl
      rw [e] at h
      exact .go h
    · have e : wR (true, g, r, gl) = [wAllow, g, [45], gl] := by unfold wR rq; rw [hr]; rfl
      rw [e] at h
      exact .go h
theorem wR_len (x : Ru) : (wR x).length = 4 := rfl
theorem l11 (rs : List Ru) (hl : rs.length ≤ 2000000) : ∀ (m i : Nat) (ls : List (List L)), i + 1 + m = rs.length → ls.length + 4 * m ≤ 100000000 →
    Runs ck (listed_q11 (eRs rs) (rs.length : Nat) (i : Nat) ls) [.lst 9 (ls ++ eSs ((rs.drop (i + 1)).flatMap wR)), .any]
  | 0, i, ls, h, h3 => by
    refine Runs.by (listed_p11 · _ _ _ _) ?_
    rw [drop_end (l := rs) (by omega)]
    simp (disch := omega) only [w64, ev_lt_f, cond_false]
    exact .ret' (by simp [eSs])
  | m + 1, i, ls, h, h3 => by
    have hi : i + 1 < rs.length := by omega
    rw [drop_at (false, [], [], []) hi, fm_cons]
    have ha : atL (eRs rs) ((i : Int) + 1) = eR1 (rs.getD (i + 1) (false, [], [], [])) := atL_map _ rs (i + 1) _ hi
    refine Runs.by (listed_p11 · _ _ _ _) ?_
    have ih := l11 rs hl m (i + 1) (ls ++ eSs (wR (rs.getD (i + 1) (false, [], [], [])))) (by omega) (by simp only [eSs, List.length_append, List.length_map, wR_len]; omega)
    rw [app_eSs] at ih
    simp (disch := omega) only [w64, ha, eRs_len, ev_lt_t, ev_le_t, Bool.and_self, cond_true]
    exact rule_runs _ ls (fun l => listed_q11 (eRs rs) (rs.length : Nat) ((i : Int) + 1) l) _ (by omega) ih
theorem fm_len {α : Type} (f : α → List W) (c : Nat) (hf : ∀ x, c ≤ wl (f x)) (l : List α) : c * l.length ≤ wl (l.flatMap f) := by
  induction l with
  | nil => exact Nat.zero_le _
  | cons a l ih =>
    rw [fm_cons, wl_app, List.length_cons, Nat.mul_succ]
    have := hf a; omega
theorem wW_wl (x : Wr) : 1 ≤ wl (wW x) := by
  obtain ⟨p, t, g⟩ := x
  cases g
  · show 1 ≤ wl [wPut, p, qt t]; simp [wl_cons]; omega
  · show 1 ≤ wl [wDel, p]; simp [wl_cons]; omega
theorem wR_wl (x : Ru) : 1 ≤ wl (wR x) := by show 1 ≤ wl [_, _, _, _]; simp [wl_cons]; omega
theorem listed_runs (e : Ev) (ls : List (List L)) (gI : okI e = true) (g1 : (jn (lsw e)).length ≤ 1000000) (g2 : ls.length ≤ 1000000) :
    Runs ck (.enter 31 [.agg (encE e), .lf (.clo 29 [.ptr 0 0]), .lf (.clo 30 [.ptr 1 0])] [.box [.sl 9] [.row 2], .box [.oth] [.clo 29 [.ptr 0 0]], .row 9 ls true]) [.lst 9 (ls ++ eSs (lsw e)), .any] := by
  have hw := wl_jn (lsw e)
  obtain ⟨k, a1, a2, a3, a4, a5, a6, a7, a8, a9, us, gs, rs, ws⟩ := e
  unfold okI at gI
  simp only [Bool.and_eq_true] at gI
  obtain ⟨⟨i4, i5, i6, i7⟩, iu⟩ := gI
  refine Runs.by (listed_e · _ _ _ _ _ _ _ _ _ _ _ _ _ _ _) ?_
  unfold lsw at hw g1 ⊢
  dsimp only at hw g1 ⊢
  have n1 := nb (show ls.length ≤ 100000000 by omega)
  rw [n1]
  refine RunsF.cond (fun hk => ?_) (fun hk => ?_)
  · rw [hk, cond_true] at hw g1 ⊢
    rw [wl_app, wl_cons, wl_cons, wl_cons] at hw
    have h0 := fm_len wW 1 wW_wl ws
    have := l16 ws (by omega) ws.length 0 (ls ++ eSs [a1, a2, it a4]) (Nat.zero_add _) (by simp [eSs]; omega) (by rw [List.drop_zero]; omega) (by rw [List.drop_zero]; simp [eSs]; omega)
    rw [List.drop_zero, app_eSs] at this
    simp only [i4, List.length_append, List.length_cons, List.length_nil, nb (show ls.length + (0 + 1 + 1) ≤ 10000000 by omega), Bool.and_self, cond_true, eWs_len]
    rw [show ls ++ [[L.str (mk a1)], [L.str (mk a2)]] ++ eSs (List.map it [a4]) = ls ++ eSs [a1, a2, it a4] from by simp [eSs, eS1]]
    exact .go this
  · rw [hk, cond_false] at hw g1 ⊢
    refine RunsF.cond (fun hk => ?_) (fun hk => ?_)
    · rw [hk, cond_true] at hw g1 ⊢
      unfold wG at hw g1 ⊢
      dsimp only at hw g1 ⊢
      rw [wl_cons, wl_app] at hw
      have h1 := fm_len (fun u => [wUser, it u]) 1 (fun x => by show 1 ≤ wl [_, _]; simp [wl_cons]; omega) us
      have h2 := fm_len (fun g => [wGroup, g]) 1 (fun x => by show 1 ≤ wl [_, _]; simp [wl_cons]; omega) gs
      have := l25 k (mk a1) (mk a2) (mk a3) a4 a5 a6 a7 (mk a8) (mk a9) us gs (eRs rs) (eWs ws) (by omega) (by omega) iu us.length 0 (ls ++ eSs [a9]) (Nat.zero_add _) (by rw [List.drop_zero, wl_app]; simp only [eSs, List.length_append, List.length_map, List.length_cons, List.length_nil]; omega)
      rw [List.drop_zero, app_eSs] at this
      rw [eIs_len]
      exact .go this
    · rw [hk, cond_false] at hw g1 ⊢
      have h0 := fm_len wR 1 wR_wl rs
      rw [eRs_len]
      cases rs with
      | nil => exact .ret' (by simp [eSs])
      | cons x rs =>
        have ha : atL (eRs (x :: rs)) 0 = eR1 x := atL_map _ (x :: rs) 0 x (by simp)
        rw [ev_lt_t (by simp only [List.length_cons]; omega), ha]
        simp only [List.length_cons] at h0
        have := l11 (x :: rs) (by simp only [List.length_cons]; omega) rs.length 0 (ls ++ eSs (wR x)) (by simp only [List.length_cons]; omega) (by simp only [eSs, List.length_append, List.length_map, wR_len]; omega)
        rw [app_eSs] at this
        have e := rule_runs x ls (fun l => listed_q11 (eRs (x :: rs)) ((x :: rs).length : Nat) 0 l) _ (by omega) this
        rw [nb (show ls.length ≤ 100000000 by omega)] at e
        exact e
theorem listed_holds : Holds k_listed := con_run (xs := [k_add, k_num, k_pquote]) (hold1 add_holds (hold1 num_holds (hold1 pquote_holds hold0))) fun aa hp r h => by
  split at h
  case h_2 => cases h
  rename_i k a1 a2 a3 a4 a5 a6 a7 a8 a9 us gs rs ws ls
  obtain ⟨g, rfl⟩ := xo h
  simp only [Bool.and_eq_true] at g
  obtain ⟨g0, g1, g2, g3⟩ := g
  obtain ⟨a, b, c, d, rfl, rfl, rfl, rfl⟩ := isLs_of g0
  rw [dIs_e, dSs_e, dRs_e, dWs_e] at g1 g2 ⊢
  exact listed_runs _ ls g1 (sm_of g2) (sm_of g3)
end Go.Ab
namespace Go.Ab
open Go.Proofs
def gNum (m : Nat) (n : Int) : Bool := i64B n && decide (0 < m ∧ n.natAbs < 10 ^ m)
def k_Number (m : Nat) : Nat × Con := (n_codesearchref54_Number, fun
  | [.lf (.int .i64 n)], [] => some (gNum m n, [.str (mk (it n))])
  | _, _ => none)
def k_Num : Nat × Con := (n_codesearchref54_Number, fun
  | [.lf (.int .i64 n)], [] => some (i64B n, [.str (mk (it n))])
  | _, _ => none)
def k_rquote : Nat × Con := (n_codesearchref54_quote, conT (fun s => sm s.length) fun s => [.str (mk (qt s))])
def tw (l : List W) : W := l.flatMap fun w => 32 :: w
noncomputable def k_rrules : Nat × Con := (n_codesearchref54_rules, fun
  | [.lf (.lst 65 rs)], [] => some (isLs [] [] rs [] && sm (tw ((dRs rs).flatMap wR)).length, [.str (mk (tw ((dRs rs).flatMap wR)))])
  | _, _ => none)
def nmOf (k : Int) : W := cond (leI 1 k && leI k 22) (nmL.getD (k - 1).toNat []) []
def k_name : Nat × Con := (n_codesearchref54_name, fun
  | [.lf (.int .i64 k)], [] => some (i64B k, [.str (mk (nmOf k))])
  | _, _ => none)
def tlw (e : Ev) : List W :=
  cond (e.kind == 1) (lsw e) (cond (e.kind == 2) [e.repo, e.name, e.other] (cond (e.kind == 3) [e.repo, e.name] (cond (e.kind == 4) [e.repo, e.name, e.other, it e.who] (cond (e.kind == 5) [e.repo] (cond (e.kind == 6) [it e.n] (cond (e.kind == 7) (lsw e) (cond (e.kind == 8) (lsw e)
  (cond (e.kind == 9) [it e.who, qt e.text, it e.n, it e.m, it e.k] (cond (e.kind == 10) [it e.who, qt e.text] (cond (e.kind == 11) [it e.n] (cond (e.kind == 13) [it e.who, it e.n, it e.k] (cond (e.kind == 14) [it e.n] (cond (e.kind == 15) [it e.n, it e.m] (cond (e.kind == 16) [it e.n, it e.m, it e.k] (cond (e.kind == 17) [it e.n, it e.m] (cond (e.kind == 18) [it e.n, it e.m] (cond (e.kind == 19) [it e.n, it e.m, it e.k]
  (cond (e.kind == 20) [e.repo] (cond (e.kind == 21) [it e.who, e.repo, e.name, qt e.text, qt e.other] (cond (e.kind == 22) [e.repo] []))))))))))))))))))))
noncomputable def k_tail : Nat × Con := (n_codesearchref54_tail, conE (fun e => (i64B e.kind && okI e) && sm (tw (tlw e)).length) fun e => [.str (mk (tw (tlw e)))])
end Go.Ab
namespace Go.Ab
open Go.Proofs

noncomputable abbrev cln : Cfg := cfg [k_commands, k_add, k_num, k_listed, k_pquote, k_Join, k_pevent, k_Cont, k_psame]
def fN (k : Int) (l : List (ByteArray × Int)) : List W := (l.filter fun p => p.2 == k).map fun p => bl p.1
def lnw (e : Ev) : List W := fN e.kind cmdsL ++ tlw e
def ln (e : Ev) : W := jn (lnw e)
def lnR (e : Ev) : W × Int := if (evL pOps (ln e)).2 ≠ 0 ∨ (ln e).contains 10 = true ∨ (evL pOps (ln e)).1 ≠ e ∨ 8000 < (ln e).length then ([], 1) else (ln e, 0)
def gLn (e : Ev) : Bool := okI e && (Nat.ble (ln e).length 900000 && smE e)
noncomputable def k_pline : Nat × Con := (n_script_Line, conE gLn fun e => [.str (mk (lnR e).1), .int .i64 (lnR e).2])

section
variable (k : Int) (a1 a2 a3 : ByteArray) (a4 a5 a6 a7 : Int) (a8 a9 : ByteArray) (us gs rs ws : List (List L))
theorem p3_c (G : Req → R) (c c' : Option (ByteArray × Int)) (ls : List (List L)) :
    runB cln G (pline_q3 k a1 a2 a3 a4 a5 a6 a7 a8 a9 us gs rs ws cmdsL [] c ls) = runB cln G (pline_q3 k a1 a2 a3 a4 a5 a6 a7 a8 a9 us gs rs ws cmdsL [] c' ls) := by
  rw [pline_p3, pline_p3]
theorem fN_erase {k : Int} : ∀ (l : List (ByteArray × Int)) (i : Nat), i < l.length → (l.getD i default).2 ≠ k → fN k (l.eraseIdx i) = fN k l
  | [], i, h, _ => absurd h (Nat.not_lt_zero _)
  | p :: l, 0, h, hn => by
    have hn : p.2 ≠ k := hn
    have : (p.2 == k) = false := by simpa using hn
    unfold fN
    rw [List.eraseIdx_cons_zero, List.filter_cons, this]
    rfl
  | p :: l, i + 1, h, hn => by
    have ih := fN_erase l i (Nat.lt_of_succ_lt_succ h) hn
    unfold fN at ih ⊢
    rw [List.eraseIdx_cons_succ, List.filter_cons, List.filter_cons]
    split
    · rw [List.map_cons, List.map_cons, ih]
    · exact ih
theorem fN_hit {k : Int} : ∀ (l : List (ByteArray × Int)) (i : Nat), i < l.length → (l.getD i default).2 = k → (fN k l).length ≤ 1 → fN k l = [bl (l.getD i default).1] ∧ fN k (l.eraseIdx i) = []
  | [], i, h, _, _ => absurd h (Nat.not_lt_zero _)
  | p :: l, 0, h, hn, h1 => by
    have hn : p.2 = k := hn
    have hb : (p.2 == k) = true := by simpa using hn
    have e : fN k (p :: l) = bl p.1 :: fN k l := by
      unfold fN
      rw [List.filter_cons, hb]; rfl
    rw [e, List.length_cons] at h1
    have e0 : fN k l = [] := List.eq_nil_of_length_eq_zero (by omega)
    rw [e, e0]
    exact ⟨rfl, e0⟩
  | p :: l, i + 1, h, hn, h1 => by
    have hi : i < l.length := Nat.lt_of_succ_lt_succ h
    have e : fN k (p :: l) = (if p.2 == k then [bl p.1] else []) ++ fN k l := by
      unfold fN
      rw [List.filter_cons]
      split <;> rfl
    rw [e, List.length_append] at h1
    obtain ⟨q1, q2⟩ := fN_hit l i hi hn (by omega)
    have hp : (p.2 == k) = false := by
      cases hb : p.2 == k
      · rfl
      · rw [hb, q1] at h1; simp at h1
    rw [e, hp]
    have e2 : fN k ((p :: l).eraseIdx (i + 1)) = fN k (l.eraseIdx i) := by
      unfold fN
      rw [List.eraseIdx_cons_succ, List.filter_cons, hp]; rfl
    exact ⟨q1, e2.trans q2⟩
theorem pline_iter (r : List L) (K : Nat) (fin : List W) (hK : ∀ c, run cln (K + 1) (pline_q3 k a1 a2 a3 a4 a5 a6 a7 a8 a9 us gs rs ws cmdsL [] c (eSs fin)) = some r) :
    ∀ (n : Nat) (l : List (ByteArray × Int)) (c : Option (ByteArray × Int)) (acc : List W), l.length = n → acc ++ fN k l = fin → (fN k l).length ≤ 1 → acc.length + (fN k l).length ≤ 100 →
      run cln (K + 1 + n) (pline_q3 k a1 a2 a3 a4 a5 a6 a7 a8 a9 us gs rs ws cmdsL l c (eSs acc)) = some r
  | 0, l, c, acc, hn, hf, _, _ => by
    have : l = [] := List.eq_nil_of_length_eq_zero hn
    subst this
    have : acc = fin := by rw [← hf]; simp [fN]
    rw [this]
    exact hK c
  | n + 1, l, c, acc, hn, hf, h1, ha => by
    have ih := pline_iter r K fin hK n
    show runB cln (run cln (K + 1 + n)) _ = some r
    rw [pline_p3]
    have hb : Nat.beq l.length 0 = false := by rw [hn]; rfl
    rw [hb, cond_false]
    refine anyOf_eq (by omega) fun i hi => ?_
    have hl : (l.eraseIdx i).length = n := by rw [List.length_eraseIdx_of_lt hi]; omega
    have rm : roomN ((eSs acc).length + 1) 16 = true := by rw [eSs_len]; exact roomN_t (by omega) (by omega)
    by_cases hk : (l.getD i default).2 = k
    · obtain ⟨q1, q2⟩ := fN_hit l i hi hk h1
      have hkb : (Prod.snd (l.getD i default) == k) = true := by simpa using hk
      rw [hkb, rm]
      have := ih (l.eraseIdx i) (some (l.getD i default)) (acc ++ [bl (l.getD i default).1]) hl (by rw [q2, List.append_nil, ← hf, q1]) (by rw [q2]; simp) (by
        rw [q2, List.length_append]
        rw [q1] at ha
        simpa using ha)
      rw [show eSs (acc ++ [bl (l.getD i default).1]) = eSs acc ++ [[L.str (l.getD i default).1]] from by simp [eSs, eS1]] at this
      exact this
    · have hkb : (Prod.snd (l.getD i default) == k) = false := by simpa using hk
      rw [hkb]
      have q := fN_erase l i hi hk
      exact ih (l.eraseIdx i) (some (l.getD i default)) acc hl (by rw [q]; exact hf) (by rw [q]; exact h1) (by rw [q]; exact ha)
end

theorem fN_all : ((List.range 23).all fun k => decide ((fN (k : Nat) cmdsL).length ≤ 1)) = true := by decide +kernel
theorem fN_le (k : Int) : (fN k cmdsL).length ≤ 1 := by
  by_cases h : 0 ≤ k ∧ k < 23
  · obtain ⟨i, rfl⟩ := Int.eq_ofNat_of_zero_le h.1
    exact of_decide_eq_true (List.all_eq_true.1 fN_all i (List.mem_range.2 (by omega)))
  · have hall : (cmdsL.all fun p => decide (0 ≤ p.2 ∧ p.2 < 23)) = true := by decide +kernel
    have : fN k cmdsL = [] := by
      unfold fN
      rw [List.map_eq_nil_iff, List.filter_eq_nil_iff]
      intro p hp hk
      have := of_decide_eq_true (List.all_eq_true.1 hall p hp)
      have hk : p.2 = k := by simpa using hk
      omega
    rw [this]
    exact Nat.zero_le _
theorem ln_wl (e : Ev) : wl (lnw e) ≤ (ln e).length + 1 := wl_jn _
theorem eSs_snoc' (l : List W) (w : W) : eSs l ++ [[L.str (mk w)]] = eSs (l ++ [w]) := by simp [eSs, eS1]
theorem eSs_3 (l : List W) (a b c : W) : eSs l ++ [[L.str (mk a)], [L.str (mk b)], [L.str (mk c)]] = eSs (l ++ [a, b, c]) := by simp [eSs, eS1]
theorem eSs_2 (l : List W) (a b : W) : eSs l ++ [[L.str (mk a)], [L.str (mk b)]] = eSs (l ++ [a, b]) := by simp [eSs, eS1]
theorem eSs_4 (l : List W) (a b c d : W) : eSs l ++ [[L.str (mk a)], [L.str (mk b)], [L.str (mk c)], [L.str (mk d)]] = eSs (l ++ [a, b, c, d]) := by simp [eSs, eS1]
theorem eqk {k n : Int} (h : (k == n) = true) : k = n := by simpa using h
theorem pline_end (e : Ev) (g : gLn e = true) : Runs cln (pline_q48 e.kind (mk e.repo) (mk e.name) (mk e.other) e.who e.n e.m e.k (mk e.text) (mk e.gname) (eIs e.users) (eSs e.groups) (eRs e.rules) (eWs e.writes) (eSs (lnw e))) [.str (mk (lnR e).1), .int .i64 (lnR e).2] := by
  unfold gLn at g
  simp only [Bool.and_eq_true] at g
  obtain ⟨g1, g2, g3⟩ := g
  have g2 := Nat.le_of_ble_eq_true g2
  have hw := ln_wl e
  have hl := len_wl (lnw e)
  refine Runs.by (pline_p48 · _ _ _ _ _ _ _ _ _ _ _ _ _ _ _) ?_
  have ej : jn (dSs (eSs (lnw e))) = ln e := by rw [dSs_e]; rfl
  have e1 : (⟨e.kind, bl (mk e.repo), bl (mk e.name), bl (mk e.other), e.who, e.n, e.m, e.k, bl (mk e.text), bl (mk e.gname), dIs (eIs e.users), dSs (eSs e.groups), dRs (eRs e.rules), dWs (eWs e.writes)⟩ : Ev) = e := by
    rw [dIs_e, dSs_e, dRs_e, dWs_e]
  have e2 : ∀ x : Ev, (⟨x.kind, bl (mk x.repo), bl (mk x.name), bl (mk x.other), x.who, x.n, x.m, x.k, bl (mk x.text), bl (mk x.gname), dIs (eIs x.users), dSs (eSs x.groups), dRs (eRs x.rules), dWs (eWs x.writes)⟩ : Ev) = x := fun x => by
    rw [dIs_e, dSs_e, dRs_e, dWs_e]
  rw [ej]
  simp only [e1, e2, eSs_len, size_mk, bl_mk, nb (show (lnw e).length ≤ 1000000 by omega), nb (show (ln e).length ≤ 100000000 by omega), nb (show (ln e).length ≤ 1000000000 by omega), sm_t (show (ln e).length ≤ 1000000 by omega), isLs_e, g3, Bool.and_self, cond_true]
  unfold lnR
  by_cases h1 : (evL pOps (ln e)).2 = 0
  · rw [show ((evL pOps (ln e)).2 != 0) = false from ev_ne_f h1]
    simp only [cond_false]
    cases h2 : (ln e).contains 10
    · simp only [cond_false]
      by_cases h3 : (evL pOps (ln e)).1 = e
      · rw [decide_eq_true h3]
        simp only [Bool.not_true, cond_false]
        by_cases h4 : 8000 < (ln e).length
        · rw [if_pos (.inr (.inr (.inr h4))), ev_lt_t (by omega)]
          exact .ret
        · rw [if_neg (by simp only [h1, h3, ne_eq, not_true_eq_false, h4, or_self, Bool.false_eq_true, not_false_eq_true]), ev_lt_f (by omega)]
          exact .ret
      · rw [if_pos (.inr (.inr (.inl h3))), decide_eq_false h3]
        exact .ret
    · rw [if_pos (.inr (.inl rfl))]
      exact .ret
  · rw [if_pos (.inl h1), show ((evL pOps (ln e)).2 != 0) = true from ev_ne_t h1]
    exact .ret
set_option maxHeartbeats 4000000 in
theorem pline_sw (e : Ev) (g : gLn e = true) : Runs cln (pline_q3 e.kind (mk e.repo) (mk e.name) (mk e.other) e.who e.n e.m e.k (mk e.text) (mk e.gname) (eIs e.users) (eSs e.groups) (eRs e.rules) (eWs e.writes) cmdsL [] none (eSs (fN e.kind cmdsL))) [.str (mk (lnR e).1), .int .i64 (lnR e).2] := by
  have hend := pline_end e g
  have hf := fN_le e.kind
  have hw := ln_wl e
  have g' := g
  unfold gLn at g'
  simp only [Bool.and_eq_true] at g'
  obtain ⟨g1, g2, g3⟩ := g'
  have g2 := Nat.le_of_ble_eq_true g2
  have gI := g1
  unfold okI at gI
  simp only [Bool.and_eq_true] at gI
  obtain ⟨⟨i4, i5, i6, i7⟩, iu⟩ := gI
  have e1 : (⟨e.kind, bl (mk e.repo), bl (mk e.name), bl (mk e.other), e.who, e.n, e.m, e.k, bl (mk e.text), bl (mk e.gname), dIs (eIs e.users), dSs (eSs e.groups), dRs (eRs e.rules), dWs (eWs e.writes)⟩ : Ev) = e := by
    rw [dIs_e, dSs_e, dRs_e, dWs_e]
  have ow : wl (lnw e) = wl (fN e.kind cmdsL) + wl (tlw e) := wl_app _ _
  have o1 : (okI e && (sm (jn (lsw e)).length && sm (eSs (fN e.kind cmdsL)).length)) = true ∨ True := .inr trivial
  have n0 : ∀ b : Nat, b ≤ 100 → Nat.ble ((eSs (fN e.kind cmdsL)).length + b) 10000000 = true := fun b hb => nb (by rw [eSs_len]; omega)
  have n1 : Nat.ble (eSs (fN e.kind cmdsL)).length 10000000 = true := n0 0 (by decide)
  have n2 : Nat.ble (eSs (fN e.kind cmdsL)).length 100000000 = true := nb (by rw [eSs_len]; omega)
  have n3 : Nat.ble (fN e.kind cmdsL).length 10000000 = true := nb (by omega)
  have n4 : Nat.ble (fN e.kind cmdsL).length 100000000 = true := nb (by omega)
  have s1 : sm 1 = true := rfl
  have s2 : sm 2 = true := rfl
  have s3 : sm 3 = true := rfl
  have s4 : sm 4 = true := rfl
  -- the ways that call the writer of lists
  have hls : ∀ t : List W, tlw e = lsw e → (isLs (eIs e.users) (eSs e.groups) (eRs e.rules) (eWs e.writes) && (okI e && (sm (jn (lsw e)).length && sm (eSs (fN e.kind cmdsL)).length))) = true := fun _ ht => by
    rw [isLs_e, g1]
    have h1 := jn_wl (lsw e)
    rw [ht] at ow
    rw [sm_t (show (jn (lsw e)).length ≤ 1000000 by omega), sm_t (by rw [eSs_len]; omega)]
    rfl
  refine Runs.by (pline_p3 · _ _ _ _ _ _ _ _ _ _ _ _ _ _ _ _ _ _) ?_
  rw [show Nat.beq ([] : List (ByteArray × Int)).length 0 = true from rfl]
  simp only [cond_true, e1]
  refine RunsF.cond (fun hk => ?_) (fun hk0 => ?_)
  · have hk := eqk hk
    have ht : tlw e = lsw e := by unfold tlw; rw [hk]; rfl
    have hl : lnw e = fN e.kind cmdsL ++ tlw e := rfl
    rw [hls [] ht]
    rw [hl, ht, ← eSs_app] at hend
    exact .go hend
  refine RunsF.cond (fun hk => ?_) (fun hk1 => ?_)
  · have hk := eqk hk
    have ht : tlw e = lsw e := by unfold tlw; rw [hk]; rfl
    have hl : lnw e = fN e.kind cmdsL ++ tlw e := rfl
    rw [hls [] ht]
    rw [hl, ht, ← eSs_app] at hend
    exact .go hend
  refine RunsF.cond (fun hk => ?_) (fun hk2 => ?_)
  · have hk := eqk hk
    have ht : tlw e = lsw e := by unfold tlw; rw [hk]; rfl
    have hl : lnw e = fN e.kind cmdsL ++ tlw e := rfl
    rw [hls [] ht]
    rw [hl, ht, ← eSs_app] at hend
    exact .go hend
  refine RunsF.cond (fun hk => ?_) (fun hk3 => ?_)
  · have hk := eqk hk
    have ht : tlw e = [it e.who, qt e.text, it e.n, it e.m, it e.k] := by unfold tlw; rw [hk]; rfl
    have hl : lnw e = fN e.kind cmdsL ++ tlw e := rfl
    have hq := qt_len e.text
    rw [ht] at ow
    simp only [wl_cons, wl_nil] at ow
    have q1 := sm_t (show e.text.length ≤ 1000000 by omega)
    rw [hl, ht] at hend
    simp only [i4, i5, i6, i7, n3, s1, bl_mk, Bool.and_self, cond_true, dupN_eq, List.length_append, eSs_len, List.length_cons, List.length_nil, List.map_cons, List.map_nil, q1]
    have m0 : ∀ b : Nat, b ≤ 100 → Nat.ble ((fN e.kind cmdsL).length + b) 10000000 = true ∧ Nat.ble ((fN e.kind cmdsL).length + b) 100000000 = true := fun b hb => ⟨nb (by omega), nb (by omega)⟩
    try simp only [eSs_snoc', eSs_app, List.append_assoc, List.cons_append, List.nil_append, (m0 (0 + 1) (by decide)).2, (m0 (0 + 1 + 1) (by decide)).1, Nat.add_assoc, Bool.and_self, cond_true]
    exact .go hend
  refine RunsF.cond (fun hk => ?_) (fun hk4 => ?_)
  · have hk := eqk hk
    have ht : tlw e = [it e.who, qt e.text] := by unfold tlw; rw [hk]; rfl
    have hl : lnw e = fN e.kind cmdsL ++ tlw e := rfl
    have hq := qt_len e.text
    rw [ht] at ow
    simp only [wl_cons, wl_nil] at ow
    have q1 := sm_t (show e.text.length ≤ 1000000 by omega)
    rw [hl, ht] at hend
    simp only [i4, n3, s1, bl_mk, Bool.and_self, cond_true, dupN_eq, List.length_append, eSs_len, List.length_cons, List.length_nil, List.map_cons, List.map_nil, q1]
    have m0 : ∀ b : Nat, b ≤ 100 → Nat.ble ((fN e.kind cmdsL).length + b) 10000000 = true ∧ Nat.ble ((fN e.kind cmdsL).length + b) 100000000 = true := fun b hb => ⟨nb (by omega), nb (by omega)⟩
    try simp only [eSs_snoc', eSs_app, List.append_assoc, List.cons_append, List.nil_append, (m0 (0 + 1) (by decide)).2, Bool.and_self, cond_true]
    exact .go hend
  refine RunsF.cond (fun hk => ?_) (fun hk5 => ?_)
  · have hk := eqk hk
    have ht : tlw e = [it e.who, it e.n, it e.k] := by unfold tlw; rw [hk]; rfl
    have hl : lnw e = fN e.kind cmdsL ++ tlw e := rfl
    rw [hl, ht] at hend
    simp only [i4, i5, i7, n3, Bool.and_self, cond_true, eSs_len, List.map_cons, List.map_nil]
    have m0 : ∀ b : Nat, b ≤ 100 → Nat.ble ((fN e.kind cmdsL).length + b) 10000000 = true ∧ Nat.ble ((fN e.kind cmdsL).length + b) 100000000 = true := fun b hb => ⟨nb (by omega), nb (by omega)⟩
    try simp only [eSs_app]
    exact .go hend
  refine RunsF.cond (fun hk => ?_) (fun hk6 => ?_)
  · have hk := eqk hk
    have ht : tlw e = [it e.who, e.repo, e.name, qt e.text, qt e.other] := by unfold tlw; rw [hk]; rfl
    have hl : lnw e = fN e.kind cmdsL ++ tlw e := rfl
    have hq := qt_len e.text
    have hq2 := qt_len e.other
    rw [ht] at ow
    simp only [wl_cons, wl_nil] at ow
    have q1 := sm_t (show e.text.length ≤ 1000000 by omega)
    have q2 := sm_t (show e.other.length ≤ 1000000 by omega)
    rw [hl, ht] at hend
    simp only [i4, n3, s4, bl_mk, Bool.and_self, cond_true, dupN_eq, both_self, List.length_append, eSs_len, List.length_cons, List.length_nil, List.map_cons, List.map_nil, q1, q2]
    have m0 : ∀ b : Nat, b ≤ 100 → Nat.ble ((fN e.kind cmdsL).length + b) 10000000 = true ∧ Nat.ble ((fN e.kind cmdsL).length + b) 100000000 = true := fun b hb => ⟨nb (by omega), nb (by omega)⟩
    try simp only [eSs_app, eSs_4, List.append_assoc, List.cons_append, List.nil_append, (m0 (0 + 1) (by decide)).2, Bool.and_self, cond_true]
    exact .go hend
  refine RunsF.cond (fun hk => ?_) (fun hk7 => ?_)
  · have hk := eqk hk
    have ht : tlw e = [e.repo] := by unfold tlw; rw [hk]; rfl
    have hl : lnw e = fN e.kind cmdsL ++ tlw e := rfl
    rw [hl, ht] at hend
    simp only [n4, s1, Bool.and_self, cond_true, eSs_len]
    have m0 : ∀ b : Nat, b ≤ 100 → Nat.ble ((fN e.kind cmdsL).length + b) 10000000 = true ∧ Nat.ble ((fN e.kind cmdsL).length + b) 100000000 = true := fun b hb => ⟨nb (by omega), nb (by omega)⟩
    try simp only [eSs_snoc']
    exact .go hend
  refine RunsF.cond (fun hk => ?_) (fun hk8 => ?_)
  · have hk := eqk hk
    have ht : tlw e = [e.repo] := by unfold tlw; rw [hk]; rfl
    have hl : lnw e = fN e.kind cmdsL ++ tlw e := rfl
    rw [hl, ht] at hend
    simp only [n4, s1, Bool.and_self, cond_true, eSs_len]
    have m0 : ∀ b : Nat, b ≤ 100 → Nat.ble ((fN e.kind cmdsL).length + b) 10000000 = true ∧ Nat.ble ((fN e.kind cmdsL).length + b) 100000000 = true := fun b hb => ⟨nb (by omega), nb (by omega)⟩
    try simp only [eSs_snoc']
    exact .go hend
  refine RunsF.cond (fun hk => ?_) (fun hk9 => ?_)
  · have hk := eqk hk
    have ht : tlw e = [e.repo] := by unfold tlw; rw [hk]; rfl
    have hl : lnw e = fN e.kind cmdsL ++ tlw e := rfl
    rw [hl, ht] at hend
    simp only [n4, s1, Bool.and_self, cond_true, eSs_len]
    have m0 : ∀ b : Nat, b ≤ 100 → Nat.ble ((fN e.kind cmdsL).length + b) 10000000 = true ∧ Nat.ble ((fN e.kind cmdsL).length + b) 100000000 = true := fun b hb => ⟨nb (by omega), nb (by omega)⟩
    try simp only [eSs_snoc']
    exact .go hend
  refine RunsF.cond (fun hk => ?_) (fun hk10 => ?_)
  · have hk := eqk hk
    have ht : tlw e = [e.repo, e.name, e.other] := by unfold tlw; rw [hk]; rfl
    have hl : lnw e = fN e.kind cmdsL ++ tlw e := rfl
    rw [hl, ht] at hend
    simp only [n4, s3, Bool.and_self, cond_true, eSs_len]
    have m0 : ∀ b : Nat, b ≤ 100 → Nat.ble ((fN e.kind cmdsL).length + b) 10000000 = true ∧ Nat.ble ((fN e.kind cmdsL).length + b) 100000000 = true := fun b hb => ⟨nb (by omega), nb (by omega)⟩
    try simp only [eSs_3]
    exact .go hend
  refine RunsF.cond (fun hk => ?_) (fun hk11 => ?_)
  · have hk := eqk hk
    have ht : tlw e = [e.repo, e.name, e.other, it e.who] := by unfold tlw; rw [hk]; rfl
    have hl : lnw e = fN e.kind cmdsL ++ tlw e := rfl
    rw [hl, ht] at hend
    simp only [i4, n4, s3, Bool.and_self, cond_true, List.length_append, eSs_len, List.length_cons, List.length_nil, List.map_cons, List.map_nil]
    have m0 : ∀ b : Nat, b ≤ 100 → Nat.ble ((fN e.kind cmdsL).length + b) 10000000 = true ∧ Nat.ble ((fN e.kind cmdsL).length + b) 100000000 = true := fun b hb => ⟨nb (by omega), nb (by omega)⟩
    try simp only [eSs_app, eSs_3, List.append_assoc, List.cons_append, List.nil_append, (m0 (0 + (1 + (1 + 1))) (by decide)).1, Nat.add_assoc, Bool.and_self, cond_true]
    exact .go hend
  refine RunsF.cond (fun hk => ?_) (fun hk12 => ?_)
  · have hk := eqk hk
    have ht : tlw e = [e.repo, e.name] := by unfold tlw; rw [hk]; rfl
    have hl : lnw e = fN e.kind cmdsL ++ tlw e := rfl
    rw [hl, ht] at hend
    simp only [n4, s2, Bool.and_self, cond_true, eSs_len]
    have m0 : ∀ b : Nat, b ≤ 100 → Nat.ble ((fN e.kind cmdsL).length + b) 10000000 = true ∧ Nat.ble ((fN e.kind cmdsL).length + b) 100000000 = true := fun b hb => ⟨nb (by omega), nb (by omega)⟩
    try simp only [eSs_2]
    exact .go hend
  refine RunsF.cond (fun hk => ?_) (fun hk13 => ?_)
  · have hk := eqk hk
    have ht : tlw e = [it e.n] := by unfold tlw; rw [hk]; rfl
    have hl : lnw e = fN e.kind cmdsL ++ tlw e := rfl
    rw [hl, ht] at hend
    simp only [i5, n3, Bool.and_self, cond_true, eSs_len, List.map_cons, List.map_nil]
    have m0 : ∀ b : Nat, b ≤ 100 → Nat.ble ((fN e.kind cmdsL).length + b) 10000000 = true ∧ Nat.ble ((fN e.kind cmdsL).length + b) 100000000 = true := fun b hb => ⟨nb (by omega), nb (by omega)⟩
    try simp only [eSs_app]
    exact .go hend
  refine RunsF.cond (fun hk => ?_) (fun hk14 => ?_)
  · have hk := eqk hk
    have ht : tlw e = [it e.n] := by unfold tlw; rw [hk]; rfl
    have hl : lnw e = fN e.kind cmdsL ++ tlw e := rfl
    rw [hl, ht] at hend
    simp only [i5, n3, Bool.and_self, cond_true, eSs_len, List.map_cons, List.map_nil]
    have m0 : ∀ b : Nat, b ≤ 100 → Nat.ble ((fN e.kind cmdsL).length + b) 10000000 = true ∧ Nat.ble ((fN e.kind cmdsL).length + b) 100000000 = true := fun b hb => ⟨nb (by omega), nb (by omega)⟩
    try simp only [eSs_app]
    exact .go hend
  refine RunsF.cond (fun hk => ?_) (fun hk15 => ?_)
  · have hk := eqk hk
    have ht : tlw e = [it e.n] := by unfold tlw; rw [hk]; rfl
    have hl : lnw e = fN e.kind cmdsL ++ tlw e := rfl
    rw [hl, ht] at hend
    simp only [i5, n3, Bool.and_self, cond_true, eSs_len, List.map_cons, List.map_nil]
    have m0 : ∀ b : Nat, b ≤ 100 → Nat.ble ((fN e.kind cmdsL).length + b) 10000000 = true ∧ Nat.ble ((fN e.kind cmdsL).length + b) 100000000 = true := fun b hb => ⟨nb (by omega), nb (by omega)⟩
    try simp only [eSs_app]
    exact .go hend
  refine RunsF.cond (fun hk => ?_) (fun hk16 => ?_)
  · have hk := eqk hk
    have ht : tlw e = [it e.n, it e.m] := by unfold tlw; rw [hk]; rfl
    have hl : lnw e = fN e.kind cmdsL ++ tlw e := rfl
    rw [hl, ht] at hend
    simp only [i5, i6, n3, Bool.and_self, cond_true, eSs_len, List.map_cons, List.map_nil]
    have m0 : ∀ b : Nat, b ≤ 100 → Nat.ble ((fN e.kind cmdsL).length + b) 10000000 = true ∧ Nat.ble ((fN e.kind cmdsL).length + b) 100000000 = true := fun b hb => ⟨nb (by omega), nb (by omega)⟩
    try simp only [eSs_app]
    exact .go hend
  refine RunsF.cond (fun hk => ?_) (fun hk17 => ?_)
  · have hk := eqk hk
    have ht : tlw e = [it e.n, it e.m] := by unfold tlw; rw [hk]; rfl
    have hl : lnw e = fN e.kind cmdsL ++ tlw e := rfl
    rw [hl, ht] at hend
    simp only [i5, i6, n3, Bool.and_self, cond_true, eSs_len, List.map_cons, List.map_nil]
    have m0 : ∀ b : Nat, b ≤ 100 → Nat.ble ((fN e.kind cmdsL).length + b) 10000000 = true ∧ Nat.ble ((fN e.kind cmdsL).length + b) 100000000 = true := fun b hb => ⟨nb (by omega), nb (by omega)⟩
    try simp only [eSs_app]
    exact .go hend
  refine RunsF.cond (fun hk => ?_) (fun hk18 => ?_)
  · have hk := eqk hk
    have ht : tlw e = [it e.n, it e.m] := by unfold tlw; rw [hk]; rfl
    have hl : lnw e = fN e.kind cmdsL ++ tlw e := rfl
    rw [hl, ht] at hend
    simp only [i5, i6, n3, Bool.and_self, cond_true, eSs_len, List.map_cons, List.map_nil]
    have m0 : ∀ b : Nat, b ≤ 100 → Nat.ble ((fN e.kind cmdsL).length + b) 10000000 = true ∧ Nat.ble ((fN e.kind cmdsL).length + b) 100000000 = true := fun b hb => ⟨nb (by omega), nb (by omega)⟩
    try simp only [eSs_app]
    exact .go hend
  refine RunsF.cond (fun hk => ?_) (fun hk19 => ?_)
  · have hk := eqk hk
    have ht : tlw e = [it e.n, it e.m, it e.k] := by unfold tlw; rw [hk]; rfl
    have hl : lnw e = fN e.kind cmdsL ++ tlw e := rfl
    rw [hl, ht] at hend
    simp only [i5, i6, i7, n3, Bool.and_self, cond_true, eSs_len, List.map_cons, List.map_nil]
    have m0 : ∀ b : Nat, b ≤ 100 → Nat.ble ((fN e.kind cmdsL).length + b) 10000000 = true ∧ Nat.ble ((fN e.kind cmdsL).length + b) 100000000 = true := fun b hb => ⟨nb (by omega), nb (by omega)⟩
    try simp only [eSs_app]
    exact .go hend
  refine RunsF.cond (fun hk => ?_) (fun hk20 => ?_)
  · have hk := eqk hk
    have ht : tlw e = [it e.n, it e.m, it e.k] := by unfold tlw; rw [hk]; rfl
    have hl : lnw e = fN e.kind cmdsL ++ tlw e := rfl
    rw [hl, ht] at hend
    simp only [i5, i6, i7, n3, Bool.and_self, cond_true, eSs_len, List.map_cons, List.map_nil]
    have m0 : ∀ b : Nat, b ≤ 100 → Nat.ble ((fN e.kind cmdsL).length + b) 10000000 = true ∧ Nat.ble ((fN e.kind cmdsL).length + b) 100000000 = true := fun b hb => ⟨nb (by omega), nb (by omega)⟩
    try simp only [eSs_app]
    exact .go hend
  have ht : tlw e = [] := by
    unfold tlw
    simp only [hk0, hk1, hk2, hk3, hk4, hk5, hk6, hk7, hk8, hk9, hk10, hk11, hk12, hk13, hk14, hk15, hk16, hk17, hk18, hk19, hk20, cond_false]
  have hl : lnw e = fN e.kind cmdsL ++ tlw e := rfl
  rw [hl, ht, List.append_nil] at hend
  exact .go hend
theorem pline_runs (e : Ev) (g : gLn e = true) : Runs cln (.enter 16 [.agg (encE e)] []) [.str (mk (lnR e).1), .int .i64 (lnR e).2] := by
  obtain ⟨K, hK⟩ := pline_sw e g
  have hf := fN_le e.kind
  cases K with
  | zero => cases hK
  | succ K =>
    refine Runs.by (pline_e · _ _ _ _ _ _ _ _ _ _ _ _ _ _) ?_
    exact ⟨_, pline_iter e.kind (mk e.repo) (mk e.name) (mk e.other) e.who e.n e.m e.k (mk e.text) (mk e.gname) (eIs e.users) (eSs e.groups) (eRs e.rules) (eWs e.writes) _ K (fN e.kind cmdsL) (fun c => (p3_c _ _ _ _ _ _ _ _ _ _ _ _ _ _ (run cln K) c none _).trans hK) cmdsL.length cmdsL none [] rfl (List.nil_append _) hf (by simpa using Nat.le_trans hf (by decide))⟩
theorem pline_holds : Holds k_pline := conE_of (ks := [k_commands, k_add, k_num, k_listed, k_pquote, k_Join, k_pevent, k_Cont, k_psame]) (hold1 commands_holds (hold1 add_holds (hold1 num_holds (hold1 listed_holds (hold1 pquote_holds (hold1 Join_holds (hold1 pevent_holds (hold1 Cont_holds (hold1 psame_holds hold0))))))))) fun e g => pline_runs e g
end Go.Ab
namespace Go.Ab
open Go.Proofs
def rln (e : Ev) : W := nmOf e.kind ++ tw (tlw e)
def rlnR (e : Ev) : W × Int := if nmOf e.kind = [] then ([], 1) else if (evL aOps (rln e)).2 ≠ 0 ∨ e ≠ (evL aOps (rln e)).1 ∨ 8000 < (rln e).length then ([], 1) else (rln e, 0)
def gRl (e : Ev) : Bool := i64B e.kind && (okI e && Nat.ble (rln e).length 900000)
noncomputable def k_rline : Nat × Con := (n_codesearchref54_Line, conE gRl fun e => [.str (mk (rlnR e).1), .int .i64 (rlnR e).2])
def prR (f : Ev → W × Int) : List Ev → W → W × Int
  | [], acc => (acc, 0)
  | e :: l, acc => if (f e).2 ≠ 0 then ([], (f e).2) else prR f l (acc ++ ((f e).1 ++ [10]))
noncomputable def k_pprint : Nat × Con := (n_script_Print, fun
  | [.lf (.lst 42 xs)], [] => some (isEs xs && (Nat.ble xs.length 10000 && (dEs xs).all gLn), [.str (mk (prR lnR (dEs xs) []).1), .int .i64 (prR lnR (dEs xs) []).2])
  | _, _ => none)
noncomputable def k_rprint : Nat × Con := (n_codesearchref54_Print, fun
  | [.lf (.lst 42 xs)], [] => some (isEs xs && (Nat.ble xs.length 10000 && (dEs xs).all gRl), [.str (mk (prR rlnR (dEs xs) []).1), .int .i64 (prR rlnR (dEs xs) []).2])
  | _, _ => none)
def skp (w : W) : Bool := match w with
  | [] => true
  | c :: _ => c.toNat == 35
structure PR where
  l : List Ev
  n : Int
  x : Int
def psE (r : Ev × Int) (m : Nat) : Int := if r.2 = 0 ∧ 400 ≤ m then 4 else r.2
def psR (f : W → Ev × Int) : List W → Nat → List Ev → PR
  | [], _, acc => ⟨acc, 0, 0⟩
  | w :: ws, i, acc => cond (skp w) (psR f ws (i + 1) acc) (if psE (f w) acc.length ≠ 0 then ⟨[], (i : Int) + 1, psE (f w) acc.length⟩ else psR f ws (i + 1) (acc ++ [(f w).1]))
def stF : Nat → W → Bool → List Nat
  | _, [], _ => []
  | i, c :: s, b => cond b (i :: stF (i + 1) s (c.toNat == 10)) (stF (i + 1) s (c.toNat == 10))
def no10 (t : W) : W := t.takeWhile fun c => !(c.toNat == 10)
def rlines (s : W) : List W := (stF 0 s true).map fun p => no10 (s.drop p)
def parP (s : W) : PR := if 8000 < s.length then ⟨[], 0, 4⟩ else psR (evL pOps) (spl 10 s) 0 []
def parA (s : W) : PR := if 8000 < s.length then ⟨[], 0, 4⟩ else psR (evL aOps) (rlines s) 0 []
def prL (r : PR) : List L := [.lst 42 (eEs r.l), .int .i64 r.n, .int .i64 r.x]
def k_pparse : Nat × Con := (n_script_Parse, conT (fun s => sm s.length) fun s => prL (parP s))
def k_rparse : Nat × Con := (n_codesearchref54_Parse, conT (fun s => sm s.length) fun s => prL (parA s))
def eNs (l : List Nat) : List (List L) := eIs (l.map fun n : Nat => (n : Int))
def k_starts : Nat × Con := (n_codesearchref01_Starts, conT (fun s => sm s.length) fun s => [.lst 3 (eNs (stF 0 s true))])
def stopF (s : W) (i : Nat) : Nat := cond (Nat.blt (i + (no10 (s.drop i)).length) s.length) (i + (no10 (s.drop i)).length + 1) s.length
def k_stop : Nat × Con := (n_codesearchref01_stop, fun
  | [.lf (.str s), .lf (.int .i64 i)], [] => some (sm s.size && (leI 0 i && leI i s.size), [.int .i64 (stopF (bl s) i.toNat)])
  | _, _ => none)
def k_rlines : Nat × Con := (n_codesearchref01_Lines, conT (fun s => sm s.length) fun s => [.lst 9 (eSs (rlines s))])
end Go.Ab
namespace Go.Ab
open Go.Proofs

theorem sm_dm {x y : Rs} (h : Sm x y) (hd : Dm x) : Dm y := h.elim (fun h => by rw [← h.1]; exact hd) fun h => h.2
theorem lG_sm : ∀ (f g : Nat) (x : Rs) (u : List Int) (gs : List W), x.1.length < f → x.1.length < g → Sm x x → Sm (lpG f x u gs).2 (lqG g x u gs).2 ∧ (¬ Dm (lpG f x u gs).2 → (lpG f x u gs).1 = (lqG g x u gs).1)
  | 0, _, _, _, _, h, _, _ => absurd h (Nat.not_lt_zero _)
  | _, 0, _, _, _, _, h, _ => absurd h (Nat.not_lt_zero _)
  | f + 1, g + 1, x, u, gs, hf, hg, hs => by
    by_cases hdx : Dm x
    · exact ⟨.inr ⟨lpG_dm _ _ _ _ hdx, lqG_dm _ _ _ _ hdx⟩, fun h => absurd (lpG_dm _ _ _ _ hdx) h⟩
    · obtain ⟨s1, v1⟩ := stepW hs
      cases hm : mo x with
      | false =>
        have e1 : lpG (f + 1) x u gs = ((u, gs), x) := by rw [lpG, hm]; rfl
        have e2 : lqG (g + 1) x u gs = ((u, gs), x) := by rw [lqG, hm]; rfl
        rw [e1, e2]
        exact ⟨hs, fun _ => rfl⟩
      | true =>
        have both : Dm (lpG (f + 1) x u gs).2 → Dm (lqG (g + 1) x u gs).2 → Sm (lpG (f + 1) x u gs).2 (lqG (g + 1) x u gs).2 ∧ (¬ Dm (lpG (f + 1) x u gs).2 → (lpG (f + 1) x u gs).1 = (lqG (g + 1) x u gs).1) := fun h1 h2 => ⟨.inr ⟨h1, h2⟩, fun h => absurd h1 h⟩
        by_cases hd1 : Dm (sW x)
        · have hd1' : Dm (sAW x) := sm_dm s1 hd1
          refine both ?_ ?_
          · rw [lpG, hm]
            cases vW x == wUser && gs.isEmpty
            · cases vW x == wGroup
              · exact .inl (by show (lpG f ((sW x).1, true) u gs).2.2 = true; rw [lpG_bad f _ u gs rfl])
              · exact lpG_dm _ _ _ _ (dW hd1)
            · exact lpG_dm _ _ _ _ (dN hd1)
          · rw [lqG, hm]
            cases vAW x == wUser
            · cases vAW x == wGroup
              · exact .inl (by show (lqG g ((sAW x).1, true) u gs).2.2 = true; rw [lqG_bad g _ u gs rfl])
              · exact lqG_dm _ _ _ _ (dAW hd1')
            · cases gs.isEmpty
              · exact lqG_dm _ _ _ _ (dAN (.inl rfl))
              · exact lqG_dm _ _ _ _ (dAN hd1')
        · have ev := v1 hd1
          have hl := nd_len hm hd1
          obtain ⟨s2, v2⟩ := stepW s1
          obtain ⟨s3, v3⟩ := stepNm s1
          clear both
          rw [lpG, lqG, hm, ← ev]
          simp only [cond_true]
          cases hp : vW x == wUser
          · rw [Bool.false_and]
            simp only [cond_false]
            cases hq : vW x == wGroup
            · simp only [cond_false]
              rw [lpG_bad f _ u gs rfl, lqG_bad g _ u gs rfl]
              exact ⟨.inr ⟨.inl rfl, .inl rfl⟩, fun h => absurd (.inl rfl) h⟩
            · simp only [cond_true]
              by_cases hd2 : Dm (sW (sW x))
              · exact ⟨.inr ⟨lpG_dm _ _ _ _ hd2, lqG_dm _ _ _ _ (sm_dm s2 hd2)⟩, fun h => absurd (lpG_dm _ _ _ _ hd2) h⟩
              · have e2 := s2.good hd2
                rw [← v2 hd2, ← e2]
                have := sW_len (sW x)
                exact lG_sm f g (sW (sW x)) _ _ (by omega) (by omega) good_sm
          · rw [Bool.true_and]
            cases hge : gs.isEmpty
            · have hq : (vW x == wGroup) = false := by
                have hw : vW x = wUser := by simpa using hp
                rw [hw]; rfl
              rw [hq]
              simp only [cond_false, cond_true]
              rw [lpG_bad f _ u gs rfl]
              exact ⟨.inr ⟨.inl rfl, lqG_dm _ _ _ _ (dAN (.inl rfl))⟩, fun h => absurd (.inl rfl) h⟩
            · simp only [cond_true]
              by_cases hd2 : Dm (sN (sW x))
              · exact ⟨.inr ⟨lpG_dm _ _ _ _ hd2, lqG_dm _ _ _ _ (sm_dm s3 hd2)⟩, fun h => absurd (lpG_dm _ _ _ _ hd2) h⟩
              · have e2 := s3.good hd2
                rw [← v3 hd2, ← e2]
                have := sN_len (sW x)
                exact lG_sm f g (sN (sW x)) _ _ (by omega) (by omega) good_sm
theorem lR_sm : ∀ (f g : Nat) (x : Rs) (a : List Ru), x.1.length < f → x.1.length < g → Sm x x → Sm (lpR f x a).2 (lqR g x a).2 ∧ (¬ Dm (lpR f x a).2 → (lpR f x a).1 = (lqR g x a).1)
  | 0, _, _, _, h, _, _ => absurd h (Nat.not_lt_zero _)
  | _, 0, _, _, _, h, _ => absurd h (Nat.not_lt_zero _)
  | f + 1, g + 1, x, a, hf, hg, hs => by
    by_cases hdx : Dm x
    · exact ⟨.inr ⟨lpR_dm _ _ _ hdx, lqR_dm _ _ _ hdx⟩, fun h => absurd (lpR_dm _ _ _ hdx) h⟩
    · obtain ⟨s1, v1⟩ := stepW hs
      cases hm : mo x with
      | false =>
        have e1 : lpR (f + 1) x a = (a, x) := by rw [lpR, hm]; rfl
        have e2 : lqR (g + 1) x a = (a, x) := by rw [lqR, hm]; rfl
        rw [e1, e2]
        exact ⟨hs, fun _ => rfl⟩
      | true =>
        have key : ∀ (P Q : Prop), (Dm (lpR (f + 1) x a).2 ∧ Dm (lqR (g + 1) x a).2) → Sm (lpR (f + 1) x a).2 (lqR (g + 1) x a).2 ∧ (¬ Dm (lpR (f + 1) x a).2 → (lpR (f + 1) x a).1 = (lqR (g + 1) x a).1) := fun _ _ h => ⟨.inr h, fun h' => absurd h.1 h'⟩
        have ep : lpR (f + 1) x a = lpR f ((sW (sW (sW (sW x)))).1, (sW (sW (sW (sW x)))).2 || (!(vW x == wAllow) && !(vW x == wDeny))) (a ++ [(vW x == wAllow, vW (sW x), rp (vW (sW (sW x))), vW (sW (sW (sW x))))]) := by rw [lpR, hm]; rfl
        have eq : lqR (g + 1) x a = lqR g (sAW (sAW (sAW ((sAW x).1, (sAW x).2 || !okR (vAW x))))) (a ++ [(vAW x == wAllow, vAW ((sAW x).1, (sAW x).2 || !okR (vAW x)), rp (vAW (sAW ((sAW x).1, (sAW x).2 || !okR (vAW x)))), vAW (sAW (sAW ((sAW x).1, (sAW x).2 || !okR (vAW x)))))]) := by rw [lqR, hm]; rfl
        have okn : (!(vW x == wAllow) && !(vW x == wDeny)) = !okR (vW x) := by unfold okR; rw [Bool.not_or]
        by_cases hd1 : Dm (sW x)
        · have hd1' : Dm (sAW x) := sm_dm s1 hd1
          have hb1 : Dm (((sAW x).1, (sAW x).2 || !okR (vAW x)) : Rs) := by
            rcases hd1' with h | h
            · exact .inl (by show ((sAW x).2 || _) = true; rw [h]; rfl)
            · cases hh : ((sAW x).2 || !okR (vAW x))
              · exact .inr h
              · exact .inl rfl
          refine key True True ⟨?_, ?_⟩
          · rw [ep]
            exact lpR_dm _ _ _ (.inl (by show ((sW (sW (sW (sW x)))).2 || _) = true; rw [bad_sW (bad_sW (dm_sW hd1))]; rfl))
          · rw [eq]
            exact lqR_dm _ _ _ (dAW (dAW (dAW hb1)))
        · have ev := v1 hd1
          have hl := nd_len hm hd1
          have e1 := s1.good hd1
          by_cases hok : okR (vW x) = true
          · have ey : (((sAW x).1, (sAW x).2 || !okR (vAW x)) : Rs) = sAW x := by rw [← ev, hok, Bool.not_true, Bool.or_false]
            obtain ⟨s2, v2⟩ := stepW s1
            obtain ⟨s3, v3⟩ := stepW s2
            obtain ⟨s4, v4⟩ := stepW s3
            rw [ey] at eq
            rw [okn, hok, Bool.not_true, Bool.or_false] at ep
            rw [ep, eq]
            by_cases hd4 : Dm (sW (sW (sW (sW x))))
            · exact ⟨.inr ⟨lpR_dm _ _ _ hd4, lqR_dm _ _ _ (sm_dm s4 hd4)⟩, fun h => absurd (lpR_dm _ _ _ hd4) h⟩
            · have hd3 : ¬ Dm (sW (sW (sW x))) := fun h => hd4 (dW h)
              have hd2 : ¬ Dm (sW (sW x)) := fun h => hd3 (dW h)
              have e4 := s4.good hd4
              rw [← ev, ← v2 hd2, ← v3 hd3, ← v4 hd4, ← e4]
              have l2 := sW_len (sW x)
              have l3 := sW_len (sW (sW x))
              have l4 := sW_len (sW (sW (sW x)))
              exact lR_sm f g (sW (sW (sW (sW x)))) _ (by omega) (by omega) good_sm
          · have hok : okR (vW x) = false := by simpa using hok
            refine key True True ⟨?_, ?_⟩
            · rw [ep, okn, hok]
              exact lpR_dm _ _ _ (.inl (by show ((sW (sW (sW (sW x)))).2 || true) = true; rw [Bool.or_true]))
            · rw [eq, ← ev, hok]
              exact lqR_dm _ _ _ (dAW (dAW (dAW (.inl (by show ((sAW x).2 || true) = true; rw [Bool.or_true])))))

def Es (r r' : Ev × Rs) : Prop := Sm r.2 r'.2 ∧ (¬ Dm r.2 → r.1 = r'.1)
theorem es_repo (k : Int) {x : Rs} (h : Sm x x) : Es (evRepo pOps k x) (evRepo aOps k x) := by
  obtain ⟨s1, v1⟩ := stepW h
  refine ⟨s1, fun hd => ?_⟩
  show ({ ev0 k with repo := vW x } : Ev) = { ev0 k with repo := vAW x }
  rw [v1 hd]
theorem es_1 (k : Int) {x : Rs} (h : Sm x x) : Es (ev1 pOps k x) (ev1 aOps k x) := by
  obtain ⟨s1, v1⟩ := stepNm h
  refine ⟨s1, fun hd => ?_⟩
  show ({ ev0 k with n := vN x } : Ev) = { ev0 k with n := vAN x }
  rw [v1 hd]
theorem es_2 (k : Int) {x : Rs} (h : Sm x x) : Es (ev2 pOps k x) (ev2 aOps k x) := by
  obtain ⟨s1, v1⟩ := stepNm h
  obtain ⟨s2, v2⟩ := stepNm s1
  refine ⟨s2, fun hd => ?_⟩
  have hd1 : ¬ Dm (sN x) := fun h => hd (dN h)
  show ({ ev0 k with n := vN x, m := vN (sN x) } : Ev) = { ev0 k with n := vAN x, m := vAN (sAN x) }
  rw [v1 hd1, v2 hd]
theorem es_3 (k : Int) {x : Rs} (h : Sm x x) : Es (ev3 pOps k x) (ev3 aOps k x) := by
  obtain ⟨s1, v1⟩ := stepNm h
  obtain ⟨s2, v2⟩ := stepNm s1
  obtain ⟨s3, v3⟩ := stepNm s2
  refine ⟨s3, fun hd => ?_⟩
  have hd2 : ¬ Dm (sN (sN x)) := fun h => hd (dN h)
  have hd1 : ¬ Dm (sN x) := fun h => hd2 (dN h)
  show ({ ev0 k with n := vN x, m := vN (sN x), k := vN (sN (sN x)) } : Ev) = { ev0 k with n := vAN x, m := vAN (sAN x), k := vAN (sAN (sAN x)) }
  rw [v1 hd1, v2 hd2, v3 hd]
theorem es_del (k : Int) {x : Rs} (h : Sm x x) : Es (evDel pOps k x) (evDel aOps k x) := by
  obtain ⟨s1, v1⟩ := stepNm h
  obtain ⟨s2, v2⟩ := stepNm s1
  obtain ⟨s3, v3⟩ := stepNm s2
  refine ⟨s3, fun hd => ?_⟩
  have hd2 : ¬ Dm (sN (sN x)) := fun h => hd (dN h)
  have hd1 : ¬ Dm (sN x) := fun h => hd2 (dN h)
  show ({ ev0 k with who := vN x, n := vN (sN x), k := vN (sN (sN x)) } : Ev) = { ev0 k with who := vAN x, n := vAN (sAN x), k := vAN (sAN (sAN x)) }
  rw [v1 hd1, v2 hd2, v3 hd]
theorem es_dro (k : Int) {x : Rs} (h : Sm x x) : Es (evDro pOps k x) (evDro aOps k x) := by
  obtain ⟨s1, v1⟩ := stepW h
  obtain ⟨s2, v2⟩ := stepW s1
  refine ⟨s2, fun hd => ?_⟩
  have hd1 : ¬ Dm (sW x) := fun h => hd (dW h)
  show ({ ev0 k with repo := vW x, name := vW (sW x) } : Ev) = { ev0 k with repo := vAW x, name := vAW (sAW x) }
  rw [v1 hd1, v2 hd]
theorem es_bra (k : Int) {x : Rs} (h : Sm x x) : Es (evBra pOps k x) (evBra aOps k x) := by
  obtain ⟨s1, v1⟩ := stepW h
  obtain ⟨s2, v2⟩ := stepW s1
  obtain ⟨s3, v3⟩ := stepW s2
  refine ⟨s3, fun hd => ?_⟩
  have hd2 : ¬ Dm (sW (sW x)) := fun h => hd (dW h)
  have hd1 : ¬ Dm (sW x) := fun h => hd2 (dW h)
  show ({ ev0 k with repo := vW x, name := vW (sW x), other := vW (sW (sW x)) } : Ev) = { ev0 k with repo := vAW x, name := vAW (sAW x), other := vAW (sAW (sAW x)) }
  rw [v1 hd1, v2 hd2, v3 hd]
theorem es_for (k : Int) {x : Rs} (h : Sm x x) : Es (evFor pOps k x) (evFor aOps k x) := by
  obtain ⟨s1, v1⟩ := stepW h
  obtain ⟨s2, v2⟩ := stepW s1
  obtain ⟨s3, v3⟩ := stepW s2
  obtain ⟨s4, v4⟩ := stepNm s3
  refine ⟨s4, fun hd => ?_⟩
  have hd3 : ¬ Dm (sW (sW (sW x))) := fun h => hd (dN h)
  have hd2 : ¬ Dm (sW (sW x)) := fun h => hd3 (dW h)
  have hd1 : ¬ Dm (sW x) := fun h => hd2 (dW h)
  show ({ ev0 k with repo := vW x, name := vW (sW x), other := vW (sW (sW x)), who := vN (sW (sW (sW x))) } : Ev) = { ev0 k with repo := vAW x, name := vAW (sAW x), other := vAW (sAW (sAW x)), who := vAN (sAW (sAW (sAW x))) }
  rw [v1 hd1, v2 hd2, v3 hd3, v4 hd]
theorem es_sav (k : Int) {x : Rs} (h : Sm x x) : Es (evSav pOps k x) (evSav aOps k x) := by
  obtain ⟨s1, v1⟩ := stepNm h
  obtain ⟨s2, v2⟩ := stepT s1
  refine ⟨s2, fun hd => ?_⟩
  have hd1 : ¬ Dm (sN x) := fun h => hd (dT h)
  show ({ ev0 k with who := vN x, text := vT (sN x) } : Ev) = { ev0 k with who := vAN x, text := vAT (sAN x) }
  rw [v1 hd1, v2 hd]
theorem es_sea (k : Int) {x : Rs} (h : Sm x x) : Es (evSea pOps k x) (evSea aOps k x) := by
  obtain ⟨s1, v1⟩ := stepNm h
  obtain ⟨s2, v2⟩ := stepT s1
  obtain ⟨s3, v3⟩ := stepNm s2
  obtain ⟨s4, v4⟩ := stepNm s3
  obtain ⟨s5, v5⟩ := stepNm s4
  refine ⟨s5, fun hd => ?_⟩
  have hd4 : ¬ Dm (sN (sN (sT (sN x)))) := fun h => hd (dN h)
  have hd3 : ¬ Dm (sN (sT (sN x))) := fun h => hd4 (dN h)
  have hd2 : ¬ Dm (sT (sN x)) := fun h => hd3 (dN h)
  have hd1 : ¬ Dm (sN x) := fun h => hd2 (dT h)
  show ({ ev0 k with who := vN x, text := vT (sN x), n := vN (sT (sN x)), m := vN (sN (sT (sN x))), k := vN (sN (sN (sT (sN x)))) } : Ev) = { ev0 k with who := vAN x, text := vAT (sAN x), n := vAN (sAT (sAN x)), m := vAN (sAN (sAT (sAN x))), k := vAN (sAN (sAN (sAT (sAN x)))) }
  rw [v1 hd1, v2 hd2, v3 hd3, v4 hd4, v5 hd]
theorem es_rew (k : Int) {x : Rs} (h : Sm x x) : Es (evRew pOps k x) (evRew aOps k x) := by
  obtain ⟨s1, v1⟩ := stepNm h
  obtain ⟨s2, v2⟩ := stepW s1
  obtain ⟨s3, v3⟩ := stepW s2
  obtain ⟨s4, v4⟩ := stepT s3
  obtain ⟨s5, v5⟩ := stepT s4
  refine ⟨s5, fun hd => ?_⟩
  have hd4 : ¬ Dm (sT (sW (sW (sN x)))) := fun h => hd (dT h)
  have hd3 : ¬ Dm (sW (sW (sN x))) := fun h => hd4 (dT h)
  have hd2 : ¬ Dm (sW (sN x)) := fun h => hd3 (dW h)
  have hd1 : ¬ Dm (sN x) := fun h => hd2 (dW h)
  show ({ ev0 k with who := vN x, repo := vW (sN x), name := vW (sW (sN x)), text := vT (sW (sW (sN x))), other := vT (sT (sW (sW (sN x)))) } : Ev) = { ev0 k with who := vAN x, repo := vAW (sAN x), name := vAW (sAW (sAN x)), text := vAT (sAW (sAW (sAN x))), other := vAT (sAT (sAW (sAW (sAN x)))) }
  rw [v1 hd1, v2 hd2, v3 hd3, v4 hd4, v5 hd]
theorem es_com (k : Int) {x : Rs} (h : Sm x x) : Es (evCom pOps k x) (evCom aOps k x) := by
  obtain ⟨s1, v1⟩ := stepW h
  obtain ⟨s2, v2⟩ := stepW s1
  obtain ⟨s3, v3⟩ := stepNm s2
  show Sm (lpW (fu (sN (sW (sW x)))) (sN (sW (sW x))) []).2 (lqW (fu (sAN (sAW (sAW x)))) (sAN (sAW (sAW x))) []).2 ∧ (¬ Dm (lpW (fu (sN (sW (sW x)))) (sN (sW (sW x))) []).2 → ({ ev0 k with repo := vW x, name := vW (sW x), who := vN (sW (sW x)), writes := (lpW (fu (sN (sW (sW x)))) (sN (sW (sW x))) []).1 } : Ev) = { ev0 k with repo := vAW x, name := vAW (sAW x), who := vAN (sAW (sAW x)), writes := (lqW (fu (sAN (sAW (sAW x)))) (sAN (sAW (sAW x))) []).1 })
  by_cases hd3 : Dm (sN (sW (sW x)))
  · exact ⟨.inr ⟨lpW_dm _ _ _ hd3, lqW_dm _ _ _ (sm_dm s3 hd3)⟩, fun h => absurd (lpW_dm _ _ _ hd3) h⟩
  · have hd2 : ¬ Dm (sW (sW x)) := fun h => hd3 (dN h)
    have hd1 : ¬ Dm (sW x) := fun h => hd2 (dW h)
    have e := s3.good hd3
    rw [← e, ← v1 hd1, ← v2 hd2, ← v3 hd3]
    have := lW_sm (fu (sN (sW (sW x)))) (fu (sN (sW (sW x)))) (sN (sW (sW x))) [] (Nat.lt_succ_self _) (Nat.lt_succ_self _) good_sm
    exact ⟨this.1, fun hd => by rw [this.2 hd]⟩
theorem es_grp (k : Int) {x : Rs} (h : Sm x x) : Es (evGrp pOps k x) (evGrp aOps k x) := by
  obtain ⟨s1, v1⟩ := stepW h
  show Sm (lpG (fu (sW x)) (sW x) [] []).2 (lqG (fu (sAW x)) (sAW x) [] []).2 ∧ (¬ Dm (lpG (fu (sW x)) (sW x) [] []).2 → ({ ev0 k with gname := vW x, users := (lpG (fu (sW x)) (sW x) [] []).1.1, groups := (lpG (fu (sW x)) (sW x) [] []).1.2 } : Ev) = { ev0 k with gname := vAW x, users := (lqG (fu (sAW x)) (sAW x) [] []).1.1, groups := (lqG (fu (sAW x)) (sAW x) [] []).1.2 })
  by_cases hd1 : Dm (sW x)
  · exact ⟨.inr ⟨lpG_dm _ _ _ _ hd1, lqG_dm _ _ _ _ (sm_dm s1 hd1)⟩, fun h => absurd (lpG_dm _ _ _ _ hd1) h⟩
  · have e := s1.good hd1
    rw [← e, ← v1 hd1]
    have := lG_sm (fu (sW x)) (fu (sW x)) (sW x) [] [] (Nat.lt_succ_self _) (Nat.lt_succ_self _) good_sm
    exact ⟨this.1, fun hd => by rw [this.2 hd]⟩
theorem es_rul (k : Int) {x : Rs} (h : Sm x x) : Es (evRul pOps k x) (evRul aOps k x) := by
  have := lR_sm (fu x) (fu x) x [] (Nat.lt_succ_self _) (Nat.lt_succ_self _) h
  refine ⟨this.1, fun hd => ?_⟩
  show ({ ev0 k with rules := (lpR (fu x) x []).1 } : Ev) = { ev0 k with rules := (lqR (fu x) x []).1 }
  rw [this.2 hd]
theorem es_c {b : Bool} {r1 r1' r2 r2' : Ev × Rs} (h1 : Es r1 r1') (h2 : Es r2 r2') : Es (cond b r1 r2) (cond b r1' r2') := by
  cases b
  · exact h2
  · exact h1
theorem es_all (k : Int) {x : Rs} (h : Sm x x) : Es (evG pOps k x) (evG aOps k x) :=
  es_c (es_com k h) (es_c (es_bra k h) (es_c (es_dro k h) (es_c (es_for k h) (es_c (es_repo k h) (es_c (es_1 k h) (es_c (es_grp k h) (es_c (es_rul k h) (es_c (es_sea k h) (es_c (es_sav k h) (es_c (es_1 k h) (es_c (es_del k h) (es_c (es_1 k h) (es_c (es_2 k h) (es_c (es_3 k h) (es_c (es_2 k h) (es_c (es_2 k h) (es_c (es_3 k h) (es_c (es_repo k h) (es_c (es_rew k h) (es_c (es_repo k h) (⟨h, fun _ => rfl⟩)))))))))))))))))))))
theorem fin3_es {r r' : Ev × Rs} (h : Es r r') : fin3 r = fin3 r' := by
  obtain ⟨e, s, b⟩ := r
  obtain ⟨e', s', b'⟩ := r'
  obtain ⟨h1, h2⟩ := h
  rcases h1 with ⟨hx, hb, hs⟩ | ⟨d1, d2⟩
  · have hx : (s, b) = (s', b') := hx
    have hb : b = false := hb
    cases hx
    subst hb
    cases s with
    | nil =>
      have : e = e' := h2 (fun hd => by
        rcases hd with hd | hd
        · cases hd
        · exact hd.1 rfl)
      rw [this]
    | cons c t => rfl
  · have f : ∀ (e : Ev) (s : W) (b : Bool), Dm (s, b) → fin3 (e, (s, b)) = (ev0 0, 3) := fun e s b hd => by
      rcases hd with hd | hd
      · have hd : b = true := hd
        subst hd; rfl
      · have : s.isEmpty = false := by
          cases s with
          | nil => exact absurd rfl hd.1
          | cons => rfl
        unfold fin3
        show cond (b || !s.isEmpty) _ _ = _
        rw [this, Bool.not_false, Bool.or_true]; rfl
    rw [f e s b d1, f e' s' b' d2]
theorem evL_eq (s : W) : evL pOps s = evL aOps s := by
  unfold evL
  cases ct (upB s) == 0
  · exact fin3_es (es_all _ good_sm)
  · rfl

theorem spl_nil (c : UInt8) : spl c [] = [[]] := rfl
theorem spl_head (t : W) : ∃ tl, spl 10 t = no10 t :: tl := by
  induction t with
  | nil => exact ⟨[], rfl⟩
  | cons c t ih =>
    obtain ⟨tl, e⟩ := ih
    unfold spl no10
    rw [List.takeWhile_cons]
    by_cases h : c = 10
    · subst h
      exact ⟨_, rfl⟩
    · have hc : (c.toNat == 10) = false := by
        rw [beq_eq_false_iff_ne]
        exact fun e => h (UInt8.toNat_inj.1 e)
      rw [if_neg h, e, hc]
      exact ⟨tl, rfl⟩
theorem split_lines (full : W) : ∀ (t : W) (n : Nat), full.drop n = t → (∃ tl, (tl = [] ∨ tl = [[]]) ∧ ((stF n t true).map fun p => no10 (full.drop p)) ++ tl = spl 10 t) ∧ (∃ tl, (tl = [] ∨ tl = [[]]) ∧ ((stF n t false).map fun p => no10 (full.drop p)) ++ tl = (spl 10 t).tail)
  | [], n, h => ⟨⟨[[]], .inr rfl, rfl⟩, ⟨[], .inl rfl, rfl⟩⟩
  | c :: t, n, h => by
    have ht : full.drop (n + 1) = t := by
      have := congrArg (List.drop 1) h
      rw [List.drop_drop] at this
      exact this
    obtain ⟨⟨t1, a1, b1⟩, ⟨t2, a2, b2⟩⟩ := split_lines full t (n + 1) ht
    by_cases hc : c = 10
    · subst hc
      have es : spl 10 (10 :: t) = [] :: spl 10 t := by rw [spl, if_pos rfl]
      have e1 : stF n (10 :: t) true = n :: stF (n + 1) t true := rfl
      have e2 : stF n (10 :: t) false = stF (n + 1) t true := rfl
      refine ⟨⟨t1, a1, ?_⟩, ⟨t1, a1, ?_⟩⟩
      · rw [e1, es, List.map_cons, h, List.cons_append, b1]
        rfl
      · rw [e2, es, b1]; rfl
    · have hcb : (c.toNat == 10) = false := by
        rw [beq_eq_false_iff_ne]
        exact fun e => hc (UInt8.toNat_inj.1 e)
      obtain ⟨tl, eh⟩ := spl_head t
      have es : spl 10 (c :: t) = (c :: no10 t) :: tl := by rw [spl, if_neg hc, eh]
      have e1 : stF n (c :: t) true = n :: stF (n + 1) t false := by rw [stF, hcb]; rfl
      have e2 : stF n (c :: t) false = stF (n + 1) t false := by rw [stF, hcb]; rfl
      have en : no10 (c :: t) = c :: no10 t := by unfold no10; rw [List.takeWhile_cons, hcb]; rfl
      rw [eh] at b2
      refine ⟨⟨t2, a2, ?_⟩, ⟨t2, a2, ?_⟩⟩
      · rw [e1, es, List.map_cons, h, List.cons_append, b2, en]; rfl
      · rw [e2, es, b2]; rfl
theorem psR_nil1 (f : W → Ev × Int) : ∀ (ws : List W) (i : Nat) (acc : List Ev), psR f (ws ++ [[]]) i acc = psR f ws i acc
  | [], i, acc => rfl
  | w :: ws, i, acc => by
    rw [List.cons_append]
    show cond (skp w) (psR f (ws ++ [[]]) (i + 1) acc) _ = cond (skp w) (psR f ws (i + 1) acc) _
    rw [psR_nil1 f ws, psR_nil1 f ws]
theorem psR_congr {f g : W → Ev × Int} (h : ∀ w, f w = g w) : psR f = psR g := by
  have : f = g := funext h
  rw [this]
theorem parse_eq (s : W) : parP s = parA s := by
  unfold parP parA
  split
  · rfl
  · obtain ⟨⟨tl, a, b⟩, _⟩ := split_lines s s 0 rfl
    rw [psR_congr evL_eq, ← b]
    rcases a with rfl | rfl
    · rw [List.append_nil]; rfl
    · rw [psR_nil1]; rfl
end Go.Ab
namespace Go.Ab
def n10 (w : W) : Prop := ∀ c ∈ w, c.toNat ≠ 10
def Cl (x y : Rs) : Prop := y.2 = false → x.2 = false ∧ (n10 y.1 → n10 x.1)
theorem Cl.refl (x : Rs) : Cl x x := fun h => ⟨h, id⟩
theorem Cl.trans {x y z : Rs} (h : Cl x y) (k : Cl y z) : Cl x z := fun hz => by
  obtain ⟨k1, k2⟩ := k hz
  obtain ⟨h1, h2⟩ := h k1
  exact ⟨h1, fun hn => h2 (k2 hn)⟩
theorem Cl.bad (x : Rs) (s : W) : Cl x (s, true) := fun h => by cases h
theorem n10_app {a b : W} (h1 : n10 a) (h2 : n10 b) : n10 (a ++ b) := fun c hc => (List.mem_append.1 hc).elim (h1 c) (h2 c)
theorem vis_n10 {w : W} (h : w.all isVis = true) : n10 w := fun c hc e => by
  have := List.all_eq_true.1 h c hc
  unfold isVis at this
  rw [Bool.and_eq_true] at this
  have := Nat.le_of_ble_eq_true this.1
  omega
theorem nx_of {s : W} {b : Bool} (h : nxO s b = true) : b = false ∧ ∃ t, s = (32 : UInt8) :: t := by
  unfold nxO at h
  simp only [Bool.and_eq_true, Bool.not_eq_true'] at h
  refine ⟨h.1, ?_⟩
  cases s with
  | nil => cases h.2
  | cons c t =>
    have : (c.toNat == 32) = true := h.2
    have hc : c = 32 := UInt8.toNat_inj.1 (by simpa using this)
    exact ⟨t, by rw [hc]⟩
theorem raw_cl {x : Rs} (hn : nxO x.1 x.2 = true) (hw : n10 (rwW x.1 x.2)) : x.2 = false ∧ (n10 (rwS x.1 x.2) → n10 x.1) := by
  obtain ⟨s, b⟩ := x
  obtain ⟨rfl, t, rfl⟩ := nx_of hn
  refine ⟨rfl, fun h => ?_⟩
  have e1 : rwW ((32 : UInt8) :: t) false = upB t := rfl
  have e2 : rwS ((32 : UInt8) :: t) false = t.drop (upB t).length := rfl
  dsimp only at h hw ⊢
  rw [e1] at hw
  rw [e2] at h
  have : n10 t := by
    rw [← List.take_append_drop (upB t).length t, upB_take]
    exact n10_app hw h
  intro c hc
  rcases List.mem_cons.1 hc with rfl | hc
  · decide
  · exact this c hc
theorem sW_cl (x : Rs) : Cl x (sW x) := fun h => by
  have h : pwB x.1 x.2 = false := h
  unfold pwB at h
  simp only [Bool.not_eq_false', Bool.and_eq_true] at h
  have hw := h.2
  unfold wdOk at hw
  simp only [Bool.and_eq_true] at hw
  exact raw_cl h.1 (vis_n10 hw.2.2)
theorem sN_cl (x : Rs) : Cl x (sN x) := fun h => by
  have h : pnB x.1 x.2 = false := h
  unfold pnB at h
  simp only [Bool.not_eq_false', Bool.and_eq_true] at h
  exact raw_cl h.1 (vis_n10 (num_vis _ h.2))
theorem esc_n10 {d e : UInt8} (h : esc d = some e) : d.toNat ≠ 10 := by
  unfold esc at h
  intro hd
  rw [if_neg (by omega), if_neg (by omega), if_neg (by omega), if_neg (by omega)] at h
  cases h
theorem txt_cl : ∀ (n : Nat) (s acc o r : W), s.length ≤ n → txt s acc = some (o, r) → n10 r → n10 s
  | 0, s, acc, o, r, hn, h, hr => by
    have : s = [] := List.length_eq_zero_iff.1 (by omega)
    subst this
    cases h
  | n + 1, [], acc, o, r, hn, h, hr => by cases h
  | n + 1, [c], acc, o, r, hn, h, hr => by
    unfold txt at h
    split at h
    · rename_i hc
      intro x hx
      rw [List.mem_singleton.1 hx]
      omega
    · cases h
  | n + 1, c :: d :: t, acc, o, r, hn, h, hr => by
    unfold txt at h
    simp only [List.length_cons] at hn
    split at h
    · rename_i hc
      cases h
      intro x hx
      rcases List.mem_cons.1 hx with rfl | hx
      · omega
      · exact hr x hx
    · split at h
      · cases h
      · rename_i hv
        have hc : c.toNat ≠ 10 := by omega
        split at h
        · split at h
          · rename_i e he
            have := txt_cl n t _ o r (by omega) h hr
            intro x hx
            rcases List.mem_cons.1 hx with rfl | hx
            · exact hc
            rcases List.mem_cons.1 hx with rfl | hx
            · exact esc_n10 he
            · exact this x hx
          · cases h
        · have := txt_cl n (d :: t) _ o r (by rw [List.length_cons]; omega) h hr
          intro x hx
          rcases List.mem_cons.1 hx with rfl | hx
          · exact hc
          · exact this x hx
theorem sT_cl (x : Rs) : Cl x (sT x) := fun h => by
  obtain ⟨s, b⟩ := x
  have h : ptB s b = false := h
  unfold ptB ptO at h
  simp only [Bool.not_eq_false', Bool.and_eq_true] at h
  obtain ⟨⟨h1, h2⟩, _⟩ := h
  obtain ⟨rfl, t, rfl⟩ := nx_of h1
  refine ⟨rfl, fun hr => ?_⟩
  have hr : n10 (tR t) := hr
  have h2 : tO t = true := h2
  unfold tO at h2
  unfold tR at hr
  cases hq : txq t with
  | none => rw [hq] at h2; cases h2
  | some p =>
    obtain ⟨o, r⟩ := p
    rw [hq] at hr
    have hr : n10 r := hr
    intro c hc
    rcases List.mem_cons.1 hc with rfl | hc
    · decide
    · unfold txq at hq
      cases t with
      | nil => cases hq
      | cons q u =>
        simp only at hq
        split at hq
        · rename_i hq34
          rcases List.mem_cons.1 hc with rfl | hc
          · omega
          · exact txt_cl u.length u [] o r (Nat.le_refl _) hq hr c hc
        · cases hq
theorem lpW_cl : ∀ (f : Nat) (x : Rs) (a : List Wr), Cl x (lpW f x a).2
  | 0, x, a => .refl x
  | f + 1, x, a => by
    rw [lpW]
    cases mo x
    · exact .refl x
    · cases vW x == wPut
      · cases vW x == wDel
        · exact (Cl.bad x _).trans (lpW_cl f ((sW x).1, true) a)
        · exact ((sW_cl x).trans (sW_cl _)).trans (lpW_cl f (sW (sW x)) _)
      · exact ((sW_cl x).trans ((sW_cl _).trans (sT_cl _))).trans (lpW_cl f (sT (sW (sW x))) _)
theorem lpG_cl : ∀ (f : Nat) (x : Rs) (u : List Int) (g : List W), Cl x (lpG f x u g).2
  | 0, x, u, g => .refl x
  | f + 1, x, u, g => by
    rw [lpG]
    cases mo x
    · exact .refl x
    · cases vW x == wUser && g.isEmpty
      · cases vW x == wGroup
        · exact (Cl.bad x _).trans (lpG_cl f ((sW x).1, true) u g)
        · exact ((sW_cl x).trans (sW_cl _)).trans (lpG_cl f (sW (sW x)) u _)
      · exact ((sW_cl x).trans (sN_cl _)).trans (lpG_cl f (sN (sW x)) _ g)
theorem lpR_cl : ∀ (f : Nat) (x : Rs) (a : List Ru), Cl x (lpR f x a).2
  | 0, x, a => .refl x
  | f + 1, x, a => by
    rw [lpR]
    cases mo x
    · exact .refl x
    · refine Cl.trans ?_ (lpR_cl f _ _)
      have h4 := (sW_cl x).trans ((sW_cl (sW x)).trans ((sW_cl (sW (sW x))).trans (sW_cl (sW (sW (sW x))))))
      cases hb : (!(vW x == wAllow) && !(vW x == wDeny))
      · rw [Bool.or_false]; exact h4
      · rw [Bool.or_true]; exact .bad x _
theorem cl_c {b : Bool} {x : Rs} {r r' : Ev × Rs} (h1 : Cl x r.2) (h2 : Cl x r'.2) : Cl x (cond b r r').2 := by
  cases b
  · exact h2
  · exact h1
theorem evG_cl (k : Int) (x : Rs) : Cl x (evG pOps k x).2 := by
  have com : Cl x (evCom pOps k x).2 := ((sW_cl x).trans ((sW_cl _).trans (sN_cl _))).trans (lpW_cl _ (sN (sW (sW x))) [])
  have bra : Cl x (evBra pOps k x).2 := (sW_cl x).trans ((sW_cl _).trans (sW_cl _))
  have dro : Cl x (evDro pOps k x).2 := (sW_cl x).trans (sW_cl _)
  have for' : Cl x (evFor pOps k x).2 := ((sW_cl x).trans ((sW_cl _).trans (sW_cl _))).trans (sN_cl _)
  have rep : Cl x (evRepo pOps k x).2 := sW_cl x
  have o1 : Cl x (ev1 pOps k x).2 := sN_cl x
  have grp : Cl x (evGrp pOps k x).2 := (sW_cl x).trans (lpG_cl _ (sW x) [] [])
  have rul : Cl x (evRul pOps k x).2 := lpR_cl _ x []
  have sea : Cl x (evSea pOps k x).2 := ((sN_cl x).trans (sT_cl _)).trans ((sN_cl _).trans ((sN_cl _).trans (sN_cl _)))
  have sav : Cl x (evSav pOps k x).2 := (sN_cl x).trans (sT_cl _)
  have del : Cl x (evDel pOps k x).2 := (sN_cl x).trans ((sN_cl _).trans (sN_cl _))
  have o2 : Cl x (ev2 pOps k x).2 := (sN_cl x).trans (sN_cl _)
  have o3 : Cl x (ev3 pOps k x).2 := (sN_cl x).trans ((sN_cl _).trans (sN_cl _))
  have rew : Cl x (evRew pOps k x).2 := ((sN_cl x).trans ((sW_cl _).trans (sW_cl _))).trans ((sT_cl _).trans (sT_cl _))
  have z : Cl x (ev0 k, x).2 := .refl x
  exact cl_c com (cl_c bra (cl_c dro (cl_c for' (cl_c rep (cl_c o1 (cl_c grp (cl_c rul (cl_c sea (cl_c sav (cl_c o1 (cl_c del (cl_c o1 (cl_c o2 (cl_c o3 (cl_c o2 (cl_c o2 (cl_c o3 (cl_c rep (cl_c rew (cl_c rep z))))))))))))))))))))
theorem nmL_vis : (nmL.all fun w => w.all isVis) = true := by decide
theorem evL_n10 (s : W) (h : (evL pOps s).2 = 0) : n10 s := by
  unfold evL at h
  cases hk : ct (upB s) == 0
  · rw [hk] at h
    have h : (fin3 (evG pOps (ct (upB s)) (s.drop (upB s).length, false))).2 = 0 := h
    have hk : ct (upB s) ≠ 0 := by simpa using hk
    have hm : upB s ∈ nmL := by
      by_cases hm : upB s ∈ nmL
      · exact hm
      · exact absurd (by rw [← cmd_eq, idxF_no _ _ _ hm]) hk
    unfold fin3 at h
    cases hb : ((evG pOps (ct (upB s)) (s.drop (upB s).length, false)).2.2 || !(evG pOps (ct (upB s)) (s.drop (upB s).length, false)).2.1.isEmpty)
    · rw [Bool.or_eq_false_iff] at hb
      have := (evG_cl (ct (upB s)) (s.drop (upB s).length, false) hb.1).2 (by
        have he := hb.2
        simp only [Bool.not_eq_false', List.isEmpty_iff] at he
        rw [he]
        intro c hc
        cases hc)
      have e : s = upB s ++ s.drop (upB s).length := by
        conv => lhs; rw [← List.take_append_drop (upB s).length s, upB_take]
      rw [e]
      exact n10_app (vis_n10 (List.all_eq_true.1 nmL_vis _ hm)) this
    · rw [hb] at h
      cases h
  · rw [hk] at h
    cases h
end Go.Ab
