/- The normal forms of functions of the layer, printed by a program of this work. -/
import Derived.Test.YtnalffdkchhcoaaGreatDoorPartSc3
import Derived.Test.YtnalffdkchhcoaaGreatDoorPartSc2
namespace Go.Ab
open Go.Proofs
noncomputable def rtail_q2 (e1 : List L) (n3 : ByteArray) (m4 : ByteArray) (k5 : ByteArray) (who6 : ByteArray) : Req := .point 36 [] (todoAt Tryz.prog 36 2) ⟨[an, (.lf (.eptr 42 e1 0)), an, (.lf (.str n3)), (.lf (.str m4)), (.lf (.str k5)), (.lf (.str who6)), an, an, an, an, an, an, an, an, an, an, an, an, an, an, an, an, an, an, an, an, an, an, an, an, an, an, an, an, an, an, an, an, an, an, an, an, an, an, an, an, an, an, an, an, an, an, an, an, an, an, an, an, an, an, an, an, an, an, an, an, an, an, an, an, an, an, an, an, an, an, an, an, an, an, an, an, an, an, an, an, an, an, an, an, an, an, an, an, an, an, an, an, an, an, an, an, an, an, an, an, an, an, an, an, an, an, an, an, an, an, an, an, an, an, an, an, an, an, an, an, an, an, an, an, an, an, an, an, an, an, an, an, an, an, an, an, an, an, an, an, an, an, an, an, an, an, an, an, an, an, an, an, an, an, an, an, an, an, an, an, an, an, an, an, an, an, an, an, an, an, an, an, an, an, an, an, an, an, an, an, an, an, an, an, an, an, an, an, an, an, an, an, an, an, an, an, an, an, an, an, an, an, an, an, an, an, an, an, an, an, an, an, an, an, an, an, an, an, an, an, an, an, an, an, an, an], []⟩
noncomputable def rtail_q10 (e1 : List L) (s7 : ByteArray) (i8 : Int) : Req := .point 36 [] (todoAt Tryz.prog 36 10) ⟨[an, (.lf (.eptr 42 e1 0)), an, an, an, an, an, (.lf (.str s7)), (.lf (.int IntKind.i64 i8)), an, an, an, an, an, an, an, an, an, an, an, an, an, an, an, an, an, an, an, an, an, an, an, an, an, an, an, an, an, an, an, an, an, an, an, an, an, an, an, an, an, an, an, an, an, an, an, an, an, an, an, an, an, an, an, an, an, an, an, an, an, an, an, an, an, an, an, an, an, an, an, an, an, an, an, an, an, an, an, an, an, an, an, an, an, an, an, an, an, an, an, an, an, an, an, an, an, an, an, an, an, an, an, an, an, an, an, an, an, an, an, an, an, an, an, an, an, an, an, an, an, an, an, an, an, an, an, an, an, an, an, an, an, an, an, an, an, an, an, an, an, an, an, an, an, an, an, an, an, an, an, an, an, an, an, an, an, an, an, an, an, an, an, an, an, an, an, an, an, an, an, an, an, an, an, an, an, an, an, an, an, an, an, an, an, an, an, an, an, an, an, an, an, an, an, an, an, an, an, an, an, an, an, an, an, an, an, an, an, an, an, an, an, an, an, an, an, an, an, an, an, an, an, an], []⟩
noncomputable def rtail_q26 (e1 : List L) (s10 : ByteArray) (i11 : Int) : Req := .point 36 [] (todoAt Tryz.prog 36 26) ⟨[an, (.lf (.eptr 42 e1 0)), an, an, an, an, an, an, an, an, (.lf (.str s10)), (.lf (.int IntKind.i64 i11)), an, an, an, an, an, an, an, an, an, an, an, an, an, an, an, an, an, an, an, an, an, an, an, an, an, an, an, an, an, an, an, an, an, an, an, an, an, an, an, an, an, an, an, an, an, an, an, an, an, an, an, an, an, an, an, an, an, an, an, an, an, an, an, an, an, an, an, an, an, an, an, an, an, an, an, an, an, an, an, an, an, an, an, an, an, an, an, an, an, an, an, an, an, an, an, an, an, an, an, an, an, an, an, an, an, an, an, an, an, an, an, an, an, an, an, an, an, an, an, an, an, an, an, an, an, an, an, an, an, an, an, an, an, an, an, an, an, an, an, an, an, an, an, an, an, an, an, an, an, an, an, an, an, an, an, an, an, an, an, an, an, an, an, an, an, an, an, an, an, an, an, an, an, an, an, an, an, an, an, an, an, an, an, an, an, an, an, an, an, an, an, an, an, an, an, an, an, an, an, an, an, an, an, an, an, an, an, an, an, an, an, an, an, an, an, an, an, an, an, an, an], []⟩
noncomputable def rtail_q30 (e1 : List L) (s10 : ByteArray) (i12 : Int) : Req := .point 36 [] (todoAt Tryz.prog 36 30) ⟨[an, (.lf (.eptr 42 e1 0)), an, an, an, an, an, an, an, an, (.lf (.str s10)), an, (.lf (.int IntKind.i64 i12)), an, an, an, an, an, an, an, an, an, an, an, an, an, an, an, an, an, an, an, an, an, an, an, an, an, an, an, an, an, an, an, an, an, an, an, an, an, an, an, an, an, an, an, an, an, an, an, an, an, an, an, an, an, an, an, an, an, an, an, an, an, an, an, an, an, an, an, an, an, an, an, an, an, an, an, an, an, an, an, an, an, an, an, an, an, an, an, an, an, an, an, an, an, an, an, an, an, an, an, an, an, an, an, an, an, an, an, an, an, an, an, an, an, an, an, an, an, an, an, an, an, an, an, an, an, an, an, an, an, an, an, an, an, an, an, an, an, an, an, an, an, an, an, an, an, an, an, an, an, an, an, an, an, an, an, an, an, an, an, an, an, an, an, an, an, an, an, an, an, an, an, an, an, an, an, an, an, an, an, an, an, an, an, an, an, an, an, an, an, an, an, an, an, an, an, an, an, an, an, an, an, an, an, an, an, an, an, an, an, an, an, an, an, an, an, an, an, an, an, an], []⟩
theorem rtail_e (G : Req → R) (e0_0 : Int) (e0_1 : ByteArray) (e0_2 : ByteArray) (e0_3 : ByteArray) (e0_4 : Int) (e0_5 : Int) (e0_6 : Int) (e0_7 : Int) (e0_8 : ByteArray) (e0_9_0 : ByteArray) (e0_9_1 : List (List L)) (e0_9_2 : List (List L)) (e0_10 : List (List L)) (e0_11 : List (List L)) : runB (cfgR [k_Num, k_rquote, k_rrules]) G (.enter 36 [(.agg [(.int IntKind.i64 (e0_0)), (.str (e0_1)), (.str (e0_2)), (.str (e0_3)), (.int IntKind.i64 (e0_4)), (.int IntKind.i64 (e0_5)), (.int IntKind.i64 (e0_6)), (.int IntKind.i64 (e0_7)), (.str (e0_8)), (.str (e0_9_0)), (.lst 3 e0_9_1), (.lst 9 e0_9_2), (.lst 65 e0_10), (.lst 51 e0_11)])] []) =
 (cond (i64B e0_5)
 (cond (leI (↑(1 + ByteArray.size (mk (it e0_5))) : Int) (IntKind.max IntKind.i64))
 (cond (i64B e0_6)
 (cond (leI (↑(1 + ByteArray.size (mk (it e0_6))) : Int) (IntKind.max IntKind.i64))
 (cond (i64B e0_7)
 (cond (leI (↑(1 + ByteArray.size (mk (it e0_7))) : Int) (IntKind.max IntKind.i64))
 (cond (i64B e0_4)
 (cond (leI (↑(1 + ByteArray.size (mk (it e0_4))) : Int) (IntKind.max IntKind.i64))
 (G (rtail_q2 ([L.int IntKind.i64 e0_0, L.str e0_1, L.str e0_2, L.str e0_3, L.int IntKind.i64 e0_4, L.int IntKind.i64 e0_5, L.int IntKind.i64 e0_6, L.int IntKind.i64 e0_7, L.str e0_8, L.str e0_9_0, L.lst 3 e0_9_1, L.lst 9 e0_9_2, L.lst 65 e0_10, L.lst 51 e0_11]) (mk [32] ++ mk (it e0_5)) (mk [32] ++ mk (it e0_6)) (mk [32] ++ mk (it e0_7)) (mk [32] ++ mk (it e0_4))))
 none)
 none)
 none)
 none)
 none)
 none)
 none)
 none) := by kernel_rfl
theorem rtail_p2 (G : Req → R) (e1 : List L) (n3 : ByteArray) (m4 : ByteArray) (k5 : ByteArray) (who6 : ByteArray) : runB (cfgR [k_Num, k_rquote, k_rrules]) G (rtail_q2 e1 n3 m4 k5 who6) =
 (cond (cI 0 e1 == 22)
 (cond (leI (↑(1 + ByteArray.size (cT 1 e1)) : Int) (IntKind.max IntKind.i64))
 (some [(.str (mk [32] ++ cT 1 e1))])
 none)
 (cond (cI 0 e1 == 5)
 (cond (leI (↑(1 + ByteArray.size (cT 1 e1)) : Int) (IntKind.max IntKind.i64))
 (some [(.str (mk [32] ++ cT 1 e1))])
 none)
 (cond (cI 0 e1 == 20)
 (cond (leI (↑(1 + ByteArray.size (cT 1 e1)) : Int) (IntKind.max IntKind.i64))
 (some [(.str (mk [32] ++ cT 1 e1))])
 none)
 (cond (cI 0 e1 == 1)
 (cond (leI (↑(1 + ByteArray.size (cT 1 e1)) : Int) (IntKind.max IntKind.i64))
 (cond (leI (↑(ByteArray.size (mk [32] ++ cT 1 e1) + 1) : Int) (IntKind.max IntKind.i64))
 (cond (leI (↑(ByteArray.size (mk [32] ++ cT 1 e1 ++ mk [32]) + ByteArray.size (cT 2 e1)) : Int) (IntKind.max IntKind.i64))
 (cond (leI (↑(ByteArray.size (mk [32] ++ cT 1 e1 ++ mk [32] ++ cT 2 e1) + ByteArray.size who6) : Int) (IntKind.max IntKind.i64))
 (G (rtail_q10 e1 (mk [32] ++ cT 1 e1 ++ mk [32] ++ cT 2 e1 ++ who6) 0))
 none)
 none)
 none)
 none)
 (cond (cI 0 e1 == 2)
 (cond (leI (↑(1 + ByteArray.size (cT 1 e1)) : Int) (IntKind.max IntKind.i64))
 (cond (leI (↑(ByteArray.size (mk [32] ++ cT 1 e1) + 1) : Int) (IntKind.max IntKind.i64))
 (cond (leI (↑(ByteArray.size (mk [32] ++ cT 1 e1 ++ mk [32]) + ByteArray.size (cT 2 e1)) : Int) (IntKind.max IntKind.i64))
 (cond (leI (↑(ByteArray.size (mk [32] ++ cT 1 e1 ++ mk [32] ++ cT 2 e1) + 1) : Int) (IntKind.max IntKind.i64))
 (cond (leI (↑(ByteArray.size (mk [32] ++ cT 1 e1 ++ mk [32] ++ cT 2 e1 ++ mk [32]) + ByteArray.size (cT 3 e1)) : Int) (IntKind.max IntKind.i64))
 (some [(.str (mk [32] ++ cT 1 e1 ++ mk [32] ++ cT 2 e1 ++ mk [32] ++ cT 3 e1))])
 none)
 none)
 none)
 none)
 none)
 (cond (cI 0 e1 == 4)
 (cond (leI (↑(1 + ByteArray.size (cT 1 e1)) : Int) (IntKind.max IntKind.i64))
 (cond (leI (↑(ByteArray.size (mk [32] ++ cT 1 e1) + 1) : Int) (IntKind.max IntKind.i64))
 (cond (leI (↑(ByteArray.size (mk [32] ++ cT 1 e1 ++ mk [32]) + ByteArray.size (cT 2 e1)) : Int) (IntKind.max IntKind.i64))
 (cond (leI (↑(ByteArray.size (mk [32] ++ cT 1 e1 ++ mk [32] ++ cT 2 e1) + 1) : Int) (IntKind.max IntKind.i64))
 (cond (leI (↑(ByteArray.size (mk [32] ++ cT 1 e1 ++ mk [32] ++ cT 2 e1 ++ mk [32]) + ByteArray.size (cT 3 e1)) : Int) (IntKind.max IntKind.i64))
 (cond (leI (↑(ByteArray.size (mk [32] ++ cT 1 e1 ++ mk [32] ++ cT 2 e1 ++ mk [32] ++ cT 3 e1) + ByteArray.size who6) : Int) (IntKind.max IntKind.i64))
 (some [(.str (mk [32] ++ cT 1 e1 ++ mk [32] ++ cT 2 e1 ++ mk [32] ++ cT 3 e1 ++ who6))])
 none)
 none)
 none)
 none)
 none)
 none)
 (cond (cI 0 e1 == 3)
 (cond (leI (↑(1 + ByteArray.size (cT 1 e1)) : Int) (IntKind.max IntKind.i64))
 (cond (leI (↑(ByteArray.size (mk [32] ++ cT 1 e1) + 1) : Int) (IntKind.max IntKind.i64))
 (cond (leI (↑(ByteArray.size (mk [32] ++ cT 1 e1 ++ mk [32]) + ByteArray.size (cT 2 e1)) : Int) (IntKind.max IntKind.i64))
 (some [(.str (mk [32] ++ cT 1 e1 ++ mk [32] ++ cT 2 e1))])
 none)
 none)
 none)
 (cond (cI 0 e1 == 7)
 (cond (leI (↑(1 + ByteArray.size (cT 9 e1)) : Int) (IntKind.max IntKind.i64))
 (G (rtail_q26 e1 (mk [32] ++ cT 9 e1) 0))
 none)
 (cond (cI 0 e1 == 8)
 (cond (isLs [] [] (cX 12 e1) [] && sm (List.length (tw (List.flatMap wR (dRs (cX 12 e1))))))
 (some [(.str (mk (tw (List.flatMap wR (dRs (cX 12 e1))))))])
 none)
 (cond (cI 0 e1 == 9)
 (cond (leI (↑(ByteArray.size who6 + 1) : Int) (IntKind.max IntKind.i64))
 (cond (sm (List.length (bl (cT 8 e1))))
 (cond (leI (↑(ByteArray.size (who6 ++ mk [32]) + ByteArray.size (mk (qt (bl (cT 8 e1))))) : Int) (IntKind.max IntKind.i64))
 (cond (leI (↑(ByteArray.size (who6 ++ mk [32] ++ mk (qt (bl (cT 8 e1)))) + ByteArray.size n3) : Int) (IntKind.max IntKind.i64))
 (cond (leI (↑(ByteArray.size (who6 ++ mk [32] ++ mk (qt (bl (cT 8 e1))) ++ n3) + ByteArray.size m4) : Int) (IntKind.max IntKind.i64))
 (cond (leI (↑(ByteArray.size (who6 ++ mk [32] ++ mk (qt (bl (cT 8 e1))) ++ n3 ++ m4) + ByteArray.size k5) : Int) (IntKind.max IntKind.i64))
 (some [(.str (who6 ++ mk [32] ++ mk (qt (bl (cT 8 e1))) ++ n3 ++ m4 ++ k5))])
 none)
 none)
 none)
 none)
 none)
 none)
 (cond (cI 0 e1 == 10)
 (cond (leI (↑(ByteArray.size who6 + 1) : Int) (IntKind.max IntKind.i64))
 (cond (sm (List.length (bl (cT 8 e1))))
 (cond (leI (↑(ByteArray.size (who6 ++ mk [32]) + ByteArray.size (mk (qt (bl (cT 8 e1))))) : Int) (IntKind.max IntKind.i64))
 (some [(.str (who6 ++ mk [32] ++ mk (qt (bl (cT 8 e1)))))])
 none)
 none)
 none)
 (cond (cI 0 e1 == 13)
 (cond (leI (↑(ByteArray.size who6 + ByteArray.size n3) : Int) (IntKind.max IntKind.i64))
 (cond (leI (↑(ByteArray.size (who6 ++ n3) + ByteArray.size k5) : Int) (IntKind.max IntKind.i64))
 (some [(.str (who6 ++ n3 ++ k5))])
 none)
 none)
 (cond (cI 0 e1 == 6)
 (some [(.str (n3))])
 (cond (cI 0 e1 == 11)
 (some [(.str (n3))])
 (cond (cI 0 e1 == 14)
 (some [(.str (n3))])
 (cond (cI 0 e1 == 15)
 (cond (leI (↑(ByteArray.size n3 + ByteArray.size m4) : Int) (IntKind.max IntKind.i64))
 (some [(.str (n3 ++ m4))])
 none)
 (cond (cI 0 e1 == 17)
 (cond (leI (↑(ByteArray.size n3 + ByteArray.size m4) : Int) (IntKind.max IntKind.i64))
 (some [(.str (n3 ++ m4))])
 none)
 (cond (cI 0 e1 == 18)
 (cond (leI (↑(ByteArray.size n3 + ByteArray.size m4) : Int) (IntKind.max IntKind.i64))
 (some [(.str (n3 ++ m4))])
 none)
 (cond (cI 0 e1 == 16)
 (cond (leI (↑(ByteArray.size n3 + ByteArray.size m4) : Int) (IntKind.max IntKind.i64))
 (cond (leI (↑(ByteArray.size (n3 ++ m4) + ByteArray.size k5) : Int) (IntKind.max IntKind.i64))
 (some [(.str (n3 ++ m4 ++ k5))])
 none)
 none)
 (cond (cI 0 e1 == 19)
 (cond (leI (↑(ByteArray.size n3 + ByteArray.size m4) : Int) (IntKind.max IntKind.i64))
 (cond (leI (↑(ByteArray.size (n3 ++ m4) + ByteArray.size k5) : Int) (IntKind.max IntKind.i64))
 (some [(.str (n3 ++ m4 ++ k5))])
 none)
 none)
 (cond (cI 0 e1 == 21)
 (cond (leI (↑(ByteArray.size who6 + 1) : Int) (IntKind.max IntKind.i64))
 (cond (leI (↑(ByteArray.size (who6 ++ mk [32]) + ByteArray.size (cT 1 e1)) : Int) (IntKind.max IntKind.i64))
 (cond (leI (↑(ByteArray.size (who6 ++ mk [32] ++ cT 1 e1) + 1) : Int) (IntKind.max IntKind.i64))
 (cond (leI (↑(ByteArray.size (who6 ++ mk [32] ++ cT 1 e1 ++ mk [32]) + ByteArray.size (cT 2 e1)) : Int) (IntKind.max IntKind.i64))
 (cond (leI (↑(ByteArray.size (who6 ++ mk [32] ++ cT 1 e1 ++ mk [32] ++ cT 2 e1) + 1) : Int) (IntKind.max IntKind.i64))
 (cond (sm (List.length (bl (cT 8 e1))))
 (cond (leI (↑(ByteArray.size (who6 ++ mk [32] ++ cT 1 e1 ++ mk [32] ++ cT 2 e1 ++ mk [32]) + ByteArray.size (mk (qt (bl (cT 8 e1))))) : Int) (IntKind.max IntKind.i64))
 (cond (leI (↑(ByteArray.size (who6 ++ mk [32] ++ cT 1 e1 ++ mk [32] ++ cT 2 e1 ++ mk [32] ++ mk (qt (bl (cT 8 e1)))) + 1) : Int) (IntKind.max IntKind.i64))
 (cond (sm (List.length (bl (cT 3 e1))))
 (cond (leI (↑(ByteArray.size (who6 ++ mk [32] ++ cT 1 e1 ++ mk [32] ++ cT 2 e1 ++ mk [32] ++ mk (qt (bl (cT 8 e1))) ++ mk [32]) + ByteArray.size (mk (qt (bl (cT 3 e1))))) : Int) (IntKind.max IntKind.i64))
 (some [(.str (who6 ++ mk [32] ++ cT 1 e1 ++ mk [32] ++ cT 2 e1 ++ mk [32] ++ mk (qt (bl (cT 8 e1))) ++ mk [32] ++ mk (qt (bl (cT 3 e1)))))])
 none)
 none)
 none)
 none)
 none)
 none)
 none)
 none)
 none)
 none)
 (some [(.str (mk []))])))))))))))))))))))))) := by kernel_rfl
theorem rtail_p10 (G : Req → R) (e1 : List L) (s7 : ByteArray) (i8 : Int) : runB (cfgR [k_Num, k_rquote, k_rrules]) G (rtail_q10 e1 s7 i8) =
 (cond (ltI i8 (↑(List.length (cX 13 e1)) : Int))
 (cond (leI 0 i8 && ltI i8 (↑(List.length (cX 13 e1)) : Int))
 (cond (cO 2 (atL (cX 13 e1) i8))
 (cond (leI (↑(5 + ByteArray.size (cT 0 (atL (cX 13 e1) i8))) : Int) (IntKind.max IntKind.i64))
 (cond (leI (↑(ByteArray.size s7 + ByteArray.size (mk [32, 100, 101, 108, 32] ++ cT 0 (atL (cX 13 e1) i8))) : Int) (IntKind.max IntKind.i64))
 (G (rtail_q10 e1 (s7 ++ (mk [32, 100, 101, 108, 32] ++ cT 0 (atL (cX 13 e1) i8))) (wrapI IntKind.i64 (i8 + 1))))
 none)
 none)
 (both
 (cond (leI (↑(5 + ByteArray.size (cT 0 (atL (cX 13 e1) i8))) : Int) (IntKind.max IntKind.i64))
 (cond (leI (↑(ByteArray.size (mk [32, 112, 117, 116, 32] ++ cT 0 (atL (cX 13 e1) i8)) + 1) : Int) (IntKind.max IntKind.i64))
 (cond (sm (List.length (bl (cT 1 (atL (cX 13 e1) i8)))))
 (cond (leI (↑(ByteArray.size (mk [32, 112, 117, 116, 32] ++ cT 0 (atL (cX 13 e1) i8) ++ mk [32]) + ByteArray.size (mk (qt (bl (cT 1 (atL (cX 13 e1) i8)))))) : Int) (IntKind.max IntKind.i64))
 (cond (leI (↑(ByteArray.size s7 + ByteArray.size (mk [32, 112, 117, 116, 32] ++ cT 0 (atL (cX 13 e1) i8) ++ mk [32] ++ mk (qt (bl (cT 1 (atL (cX 13 e1) i8)))))) : Int) (IntKind.max IntKind.i64))
 (G (rtail_q10 e1 (s7 ++ (mk [32, 112, 117, 116, 32] ++ cT 0 (atL (cX 13 e1) i8) ++ mk [32] ++ mk (qt (bl (cT 1 (atL (cX 13 e1) i8)))))) (wrapI IntKind.i64 (i8 + 1))))
 none)
 none)
 none)
 none)
 none)
 (both
 (cond (leI (↑(5 + ByteArray.size (cT 0 (atL (cX 13 e1) i8))) : Int) (IntKind.max IntKind.i64))
 (cond (leI (↑(ByteArray.size (mk [32, 112, 117, 116, 32] ++ cT 0 (atL (cX 13 e1) i8)) + 1) : Int) (IntKind.max IntKind.i64))
 (cond (sm (List.length (bl (cT 1 (atL (cX 13 e1) i8)))))
 (cond (leI (↑(ByteArray.size (mk [32, 112, 117, 116, 32] ++ cT 0 (atL (cX 13 e1) i8) ++ mk [32]) + ByteArray.size (mk (qt (bl (cT 1 (atL (cX 13 e1) i8)))))) : Int) (IntKind.max IntKind.i64))
 (cond (leI (↑(ByteArray.size s7 + ByteArray.size (mk [32, 112, 117, 116, 32] ++ cT 0 (atL (cX 13 e1) i8) ++ mk [32] ++ mk (qt (bl (cT 1 (atL (cX 13 e1) i8)))))) : Int) (IntKind.max IntKind.i64))
 (G (rtail_q10 e1 (s7 ++ (mk [32, 112, 117, 116, 32] ++ cT 0 (atL (cX 13 e1) i8) ++ mk [32] ++ mk (qt (bl (cT 1 (atL (cX 13 e1) i8)))))) (wrapI IntKind.i64 (i8 + 1))))
 none)
 none)
 none)
 none)
 none)
 (cond (sm (List.length (bl (cT 1 (atL (cX 13 e1) i8)))))
 (cond (leI (↑(5 + ByteArray.size (cT 0 (atL (cX 13 e1) i8))) : Int) (IntKind.max IntKind.i64))
 (cond (leI (↑(ByteArray.size (mk [32, 112, 117, 116, 32] ++ cT 0 (atL (cX 13 e1) i8)) + 1) : Int) (IntKind.max IntKind.i64))
 (cond (leI (↑(ByteArray.size (mk [32, 112, 117, 116, 32] ++ cT 0 (atL (cX 13 e1) i8) ++ mk [32]) + ByteArray.size (mk (qt (bl (cT 1 (atL (cX 13 e1) i8)))))) : Int) (IntKind.max IntKind.i64))
 (cond (leI (↑(ByteArray.size s7 + ByteArray.size (mk [32, 112, 117, 116, 32] ++ cT 0 (atL (cX 13 e1) i8) ++ mk [32] ++ mk (qt (bl (cT 1 (atL (cX 13 e1) i8)))))) : Int) (IntKind.max IntKind.i64))
 (G (rtail_q10 e1 (s7 ++ (mk [32, 112, 117, 116, 32] ++ cT 0 (atL (cX 13 e1) i8) ++ mk [32] ++ mk (qt (bl (cT 1 (atL (cX 13 e1) i8)))))) (wrapI IntKind.i64 (i8 + 1))))
 none)
 none)
 none)
 none)
 none))))
 none)
 (some [(.str (s7))])) := by kernel_rfl
theorem rtail_p26 (G : Req → R) (e1 : List L) (s10 : ByteArray) (i11 : Int) : runB (cfgR [k_Num, k_rquote, k_rrules]) G (rtail_q26 e1 s10 i11) =
 (cond (ltI i11 (↑(List.length (cX 10 e1)) : Int))
 (cond (leI 0 i11 && ltI i11 (↑(List.length (cX 10 e1)) : Int))
 (cond (i64B (cI 0 (atL (cX 10 e1) i11)))
 (cond (leI (↑(6 + ByteArray.size (mk (it (cI 0 (atL (cX 10 e1) i11))))) : Int) (IntKind.max IntKind.i64))
 (cond (leI (↑(ByteArray.size s10 + ByteArray.size (mk [32, 117, 115, 101, 114, 32] ++ mk (it (cI 0 (atL (cX 10 e1) i11))))) : Int) (IntKind.max IntKind.i64))
 (G (rtail_q26 e1 (s10 ++ (mk [32, 117, 115, 101, 114, 32] ++ mk (it (cI 0 (atL (cX 10 e1) i11))))) (wrapI IntKind.i64 (i11 + 1))))
 none)
 none)
 none)
 none)
 (G (rtail_q30 e1 s10 0))) := by kernel_rfl
theorem rtail_p30 (G : Req → R) (e1 : List L) (s10 : ByteArray) (i12 : Int) : runB (cfgR [k_Num, k_rquote, k_rrules]) G (rtail_q30 e1 s10 i12) =
 (cond (ltI i12 (↑(List.length (cX 11 e1)) : Int))
 (cond (leI 0 i12 && ltI i12 (↑(List.length (cX 11 e1)) : Int))
 (cond (leI (↑(7 + ByteArray.size (cT 0 (atL (cX 11 e1) i12))) : Int) (IntKind.max IntKind.i64))
 (cond (leI (↑(ByteArray.size s10 + ByteArray.size (mk [32, 103, 114, 111, 117, 112, 32] ++ cT 0 (atL (cX 11 e1) i12))) : Int) (IntKind.max IntKind.i64))
 (G (rtail_q30 e1 (s10 ++ (mk [32, 103, 114, 111, 117, 112, 32] ++ cT 0 (atL (cX 11 e1) i12))) (wrapI IntKind.i64 (i12 + 1))))
 none)
 none)
 none)
 (some [(.str (s10))])) := by kernel_rfl

end Go.Ab
namespace Go.Ab
open Go.Proofs
theorem rnum_e (G : Req → R) (m : Nat) (n0 : Int) : runB (cfg [(k_Number m)]) G (.enter 25 [(.lf (.int IntKind.i64 (n0)))] []) =
 (cond (leI 0 n0)
 (cond (ltI n0 10)
 (some [(.str (ByteArray.mk (List.toArray (List.map (fun c => UInt8.ofNat (Int.toNat (cI 0 c))) [[L.int IntKind.u8 (wrapI IntKind.u8 (wrapI IntKind.i64 (48 + n0)))]]))))])
 (cond (ltI (Int.tmod n0 10) 0)
 (cond (ltI (-10) n0)
 (cond (ltI n0 0)
 (some [(.str (mk [45] ++ ByteArray.mk (List.toArray (List.map (fun c => UInt8.ofNat (Int.toNat (cI 0 c))) [[L.int IntKind.u8 (wrapI IntKind.u8 (wrapI IntKind.i64 (48 + wrapI IntKind.i64 (0 - Int.tmod n0 10))))]]))))])
 (dupN 3
 (cond (gNum m (IntKind.wrap IntKind.i64 (Int.tdiv n0 10)))
 (cond (leI (↑(ByteArray.size (mk (it (IntKind.wrap IntKind.i64 (Int.tdiv n0 10)))) + ByteArray.size (ByteArray.mk (List.toArray (List.map (fun c => UInt8.ofNat (Int.toNat (cI 0 c))) [[L.int IntKind.u8 (wrapI IntKind.u8 (wrapI IntKind.i64 (48 + wrapI IntKind.i64 (0 - Int.tmod n0 10))))]])))) : Int) (IntKind.max IntKind.i64))
 (some [(.str (mk (it (IntKind.wrap IntKind.i64 (Int.tdiv n0 10))) ++ ByteArray.mk (List.toArray (List.map (fun c => UInt8.ofNat (Int.toNat (cI 0 c))) [[L.int IntKind.u8 (wrapI IntKind.u8 (wrapI IntKind.i64 (48 + wrapI IntKind.i64 (0 - Int.tmod n0 10))))]]))))])
 none)
 none)))
 (dupN 3
 (cond (gNum m (IntKind.wrap IntKind.i64 (Int.tdiv n0 10)))
 (cond (leI (↑(ByteArray.size (mk (it (IntKind.wrap IntKind.i64 (Int.tdiv n0 10)))) + ByteArray.size (ByteArray.mk (List.toArray (List.map (fun c => UInt8.ofNat (Int.toNat (cI 0 c))) [[L.int IntKind.u8 (wrapI IntKind.u8 (wrapI IntKind.i64 (48 + wrapI IntKind.i64 (0 - Int.tmod n0 10))))]])))) : Int) (IntKind.max IntKind.i64))
 (some [(.str (mk (it (IntKind.wrap IntKind.i64 (Int.tdiv n0 10))) ++ ByteArray.mk (List.toArray (List.map (fun c => UInt8.ofNat (Int.toNat (cI 0 c))) [[L.int IntKind.u8 (wrapI IntKind.u8 (wrapI IntKind.i64 (48 + wrapI IntKind.i64 (0 - Int.tmod n0 10))))]]))))])
 none)
 none)))
 (cond (ltI (-10) n0)
 (cond (ltI n0 0)
 (some [(.str (mk [45] ++ ByteArray.mk (List.toArray (List.map (fun c => UInt8.ofNat (Int.toNat (cI 0 c))) [[L.int IntKind.u8 (wrapI IntKind.u8 (wrapI IntKind.i64 (48 + Int.tmod n0 10)))]]))))])
 (dupN 3
 (cond (gNum m (IntKind.wrap IntKind.i64 (Int.tdiv n0 10)))
 (cond (leI (↑(ByteArray.size (mk (it (IntKind.wrap IntKind.i64 (Int.tdiv n0 10)))) + ByteArray.size (ByteArray.mk (List.toArray (List.map (fun c => UInt8.ofNat (Int.toNat (cI 0 c))) [[L.int IntKind.u8 (wrapI IntKind.u8 (wrapI IntKind.i64 (48 + Int.tmod n0 10)))]])))) : Int) (IntKind.max IntKind.i64))
 (some [(.str (mk (it (IntKind.wrap IntKind.i64 (Int.tdiv n0 10))) ++ ByteArray.mk (List.toArray (List.map (fun c => UInt8.ofNat (Int.toNat (cI 0 c))) [[L.int IntKind.u8 (wrapI IntKind.u8 (wrapI IntKind.i64 (48 + Int.tmod n0 10)))]]))))])
 none)
 none)))
 (dupN 3
 (cond (gNum m (IntKind.wrap IntKind.i64 (Int.tdiv n0 10)))
 (cond (leI (↑(ByteArray.size (mk (it (IntKind.wrap IntKind.i64 (Int.tdiv n0 10)))) + ByteArray.size (ByteArray.mk (List.toArray (List.map (fun c => UInt8.ofNat (Int.toNat (cI 0 c))) [[L.int IntKind.u8 (wrapI IntKind.u8 (wrapI IntKind.i64 (48 + Int.tmod n0 10)))]])))) : Int) (IntKind.max IntKind.i64))
 (some [(.str (mk (it (IntKind.wrap IntKind.i64 (Int.tdiv n0 10))) ++ ByteArray.mk (List.toArray (List.map (fun c => UInt8.ofNat (Int.toNat (cI 0 c))) [[L.int IntKind.u8 (wrapI IntKind.u8 (wrapI IntKind.i64 (48 + Int.tmod n0 10)))]]))))])
 none)
 none)))))
 (cond (ltI (Int.tmod n0 10) 0)
 (cond (ltI (-10) n0)
 (cond (ltI n0 0)
 (some [(.str (mk [45] ++ ByteArray.mk (List.toArray (List.map (fun c => UInt8.ofNat (Int.toNat (cI 0 c))) [[L.int IntKind.u8 (wrapI IntKind.u8 (wrapI IntKind.i64 (48 + wrapI IntKind.i64 (0 - Int.tmod n0 10))))]]))))])
 (dupN 3
 (cond (gNum m (IntKind.wrap IntKind.i64 (Int.tdiv n0 10)))
 (cond (leI (↑(ByteArray.size (mk (it (IntKind.wrap IntKind.i64 (Int.tdiv n0 10)))) + ByteArray.size (ByteArray.mk (List.toArray (List.map (fun c => UInt8.ofNat (Int.toNat (cI 0 c))) [[L.int IntKind.u8 (wrapI IntKind.u8 (wrapI IntKind.i64 (48 + wrapI IntKind.i64 (0 - Int.tmod n0 10))))]])))) : Int) (IntKind.max IntKind.i64))
 (some [(.str (mk (it (IntKind.wrap IntKind.i64 (Int.tdiv n0 10))) ++ ByteArray.mk (List.toArray (List.map (fun c => UInt8.ofNat (Int.toNat (cI 0 c))) [[L.int IntKind.u8 (wrapI IntKind.u8 (wrapI IntKind.i64 (48 + wrapI IntKind.i64 (0 - Int.tmod n0 10))))]]))))])
 none)
 none)))
 (dupN 3
 (cond (gNum m (IntKind.wrap IntKind.i64 (Int.tdiv n0 10)))
 (cond (leI (↑(ByteArray.size (mk (it (IntKind.wrap IntKind.i64 (Int.tdiv n0 10)))) + ByteArray.size (ByteArray.mk (List.toArray (List.map (fun c => UInt8.ofNat (Int.toNat (cI 0 c))) [[L.int IntKind.u8 (wrapI IntKind.u8 (wrapI IntKind.i64 (48 + wrapI IntKind.i64 (0 - Int.tmod n0 10))))]])))) : Int) (IntKind.max IntKind.i64))
 (some [(.str (mk (it (IntKind.wrap IntKind.i64 (Int.tdiv n0 10))) ++ ByteArray.mk (List.toArray (List.map (fun c => UInt8.ofNat (Int.toNat (cI 0 c))) [[L.int IntKind.u8 (wrapI IntKind.u8 (wrapI IntKind.i64 (48 + wrapI IntKind.i64 (0 - Int.tmod n0 10))))]]))))])
 none)
 none)))
 (cond (ltI (-10) n0)
 (cond (ltI n0 0)
 (some [(.str (mk [45] ++ ByteArray.mk (List.toArray (List.map (fun c => UInt8.ofNat (Int.toNat (cI 0 c))) [[L.int IntKind.u8 (wrapI IntKind.u8 (wrapI IntKind.i64 (48 + Int.tmod n0 10)))]]))))])
 (dupN 3
 (cond (gNum m (IntKind.wrap IntKind.i64 (Int.tdiv n0 10)))
 (cond (leI (↑(ByteArray.size (mk (it (IntKind.wrap IntKind.i64 (Int.tdiv n0 10)))) + ByteArray.size (ByteArray.mk (List.toArray (List.map (fun c => UInt8.ofNat (Int.toNat (cI 0 c))) [[L.int IntKind.u8 (wrapI IntKind.u8 (wrapI IntKind.i64 (48 + Int.tmod n0 10)))]])))) : Int) (IntKind.max IntKind.i64))
 (some [(.str (mk (it (IntKind.wrap IntKind.i64 (Int.tdiv n0 10))) ++ ByteArray.mk (List.toArray (List.map (fun c => UInt8.ofNat (Int.toNat (cI 0 c))) [[L.int IntKind.u8 (wrapI IntKind.u8 (wrapI IntKind.i64 (48 + Int.tmod n0 10)))]]))))])
 none)
 none)))
 (dupN 3
 (cond (gNum m (IntKind.wrap IntKind.i64 (Int.tdiv n0 10)))
 (cond (leI (↑(ByteArray.size (mk (it (IntKind.wrap IntKind.i64 (Int.tdiv n0 10)))) + ByteArray.size (ByteArray.mk (List.toArray (List.map (fun c => UInt8.ofNat (Int.toNat (cI 0 c))) [[L.int IntKind.u8 (wrapI IntKind.u8 (wrapI IntKind.i64 (48 + Int.tmod n0 10)))]])))) : Int) (IntKind.max IntKind.i64))
 (some [(.str (mk (it (IntKind.wrap IntKind.i64 (Int.tdiv n0 10))) ++ ByteArray.mk (List.toArray (List.map (fun c => UInt8.ofNat (Int.toNat (cI 0 c))) [[L.int IntKind.u8 (wrapI IntKind.u8 (wrapI IntKind.i64 (48 + Int.tmod n0 10)))]]))))])
 none)
 none))))) := by kernel_rfl

noncomputable def rquote_q3 (s0 : ByteArray) (i4 : Int) (h0 : List (List L)) : Req := .point 57 [] (todoAt Tryz.prog 57 3) ⟨[(.lf (.str s0)), an, an, (.lf (.row 0)), (.lf (.int IntKind.i64 i4)), an, an, an, an, an, an, an, an, an, an, an, an, an, an, an, an, an, an, an, an, an, an, an, an, an, an, an, an, an, an, an, an, an, an, an, an, an, an, an, an], [(.row 5 h0 true)]⟩
theorem rquote_e (G : Req → R) (s0 : ByteArray) : runB (cfg []) G (.enter 57 [(.lf (.str (s0)))] []) =
 (G (rquote_q3 s0 0 ([[L.int IntKind.u8 34]]))) := by kernel_rfl
theorem rquote_p3 (G : Req → R) (s0 : ByteArray) (i4 : Int) (h0 : List (List L)) : runB (cfg []) G (rquote_q3 s0 i4 h0) =
 (cond (ltI i4 (↑(ByteArray.size s0) : Int))
 (cond (leI 0 i4 && ltI i4 (↑(ByteArray.size s0) : Int))
 (cond (byI s0 i4 == 34)
 (cond (leI 0 i4 && ltI i4 (↑(ByteArray.size s0) : Int))
 (cond (roomN (List.length h0 + 2) 1)
 (G (rquote_q3 s0 (wrapI IntKind.i64 (i4 + 1)) (h0 ++ [[L.int IntKind.u8 92], [L.int IntKind.u8 (byI s0 i4)]])))
 none)
 none)
 (cond (byI s0 i4 == 92)
 (cond (leI 0 i4 && ltI i4 (↑(ByteArray.size s0) : Int))
 (cond (roomN (List.length h0 + 2) 1)
 (G (rquote_q3 s0 (wrapI IntKind.i64 (i4 + 1)) (h0 ++ [[L.int IntKind.u8 92], [L.int IntKind.u8 (byI s0 i4)]])))
 none)
 none)
 (cond (byI s0 i4 == 10)
 (cond (roomN (List.length h0 + 2) 1)
 (G (rquote_q3 s0 (wrapI IntKind.i64 (i4 + 1)) (h0 ++ [[L.int IntKind.u8 92], [L.int IntKind.u8 110]])))
 none)
 (cond (byI s0 i4 == 9)
 (cond (roomN (List.length h0 + 2) 1)
 (G (rquote_q3 s0 (wrapI IntKind.i64 (i4 + 1)) (h0 ++ [[L.int IntKind.u8 92], [L.int IntKind.u8 116]])))
 none)
 (cond (leI 0 i4 && ltI i4 (↑(ByteArray.size s0) : Int))
 (cond (roomN (List.length h0 + 1) 1)
 (G (rquote_q3 s0 (wrapI IntKind.i64 (i4 + 1)) (h0 ++ [[L.int IntKind.u8 (byI s0 i4)]])))
 none)
 none)))))
 none)
 (cond (roomN (List.length h0 + 1) 1)
 (some [(.str (ByteArray.mk (List.toArray (List.map (fun c => UInt8.ofNat (Int.toNat (cI 0 c))) (h0 ++ [[L.int IntKind.u8 34]])))))])
 none)) := by kernel_rfl

noncomputable def rrules_q3 (l0 : List (List L)) (s3 : ByteArray) (i4 : Int) : Req := .point 58 [] (todoAt Tryz.prog 58 3) ⟨[(.lf (.lst 65 l0)), an, an, (.lf (.str s3)), (.lf (.int IntKind.i64 i4)), an, an, an, an, an, an, an, an, an, an, an, an, an, an, an, an, an, an, an, an, an, an, an, an, an, an, an, an, an, an, an, an, an, an, an, an, an, an, an, an], []⟩
theorem rrules_e (G : Req → R) (l0 : List (List L)) : runB (cfg []) G (.enter 58 [(.lf (.lst 65 l0))] []) =
 (G (rrules_q3 l0 (mk []) 0)) := by kernel_rfl
theorem rrules_p3 (G : Req → R) (l0 : List (List L)) (s3 : ByteArray) (i4 : Int) : runB (cfg []) G (rrules_q3 l0 s3 i4) =
 (cond (ltI i4 (↑(List.length l0) : Int))
 (cond (leI 0 i4 && ltI i4 (↑(List.length l0) : Int))
 (cond (leI 0 i4 && ltI i4 (↑(List.length l0) : Int))
 (cond (cO 0 (atL l0 i4))
 (cond (bl (cT 2 (atL l0 i4)) == bl (mk []))
 (cond (leI 0 i4 && ltI i4 (↑(List.length l0) : Int))
 (cond (leI 0 i4 && ltI i4 (↑(List.length l0) : Int))
 (cond (leI (↑(7 + ByteArray.size (cT 1 (atL l0 i4))) : Int) (IntKind.max IntKind.i64))
 (cond (leI (↑(ByteArray.size (mk [32, 97, 108, 108, 111, 119, 32] ++ cT 1 (atL l0 i4)) + 1) : Int) (IntKind.max IntKind.i64))
 (cond (leI (↑(ByteArray.size (mk [32, 97, 108, 108, 111, 119, 32] ++ cT 1 (atL l0 i4) ++ mk [32]) + 1) : Int) (IntKind.max IntKind.i64))
 (cond (leI (↑(ByteArray.size (mk [32, 97, 108, 108, 111, 119, 32] ++ cT 1 (atL l0 i4) ++ mk [32] ++ mk [45]) + 1) : Int) (IntKind.max IntKind.i64))
 (cond (leI (↑(ByteArray.size (mk [32, 97, 108, 108, 111, 119, 32] ++ cT 1 (atL l0 i4) ++ mk [32] ++ mk [45] ++ mk [32]) + ByteArray.size (cT 3 (atL l0 i4))) : Int) (IntKind.max IntKind.i64))
 (cond (leI (↑(ByteArray.size s3 + ByteArray.size (mk [32, 97, 108, 108, 111, 119, 32] ++ cT 1 (atL l0 i4) ++ mk [32] ++ mk [45] ++ mk [32] ++ cT 3 (atL l0 i4))) : Int) (IntKind.max IntKind.i64))
 (G (rrules_q3 l0 (s3 ++ (mk [32, 97, 108, 108, 111, 119, 32] ++ cT 1 (atL l0 i4) ++ mk [32] ++ mk [45] ++ mk [32] ++ cT 3 (atL l0 i4))) (wrapI IntKind.i64 (i4 + 1))))
 none)
 none)
 none)
 none)
 none)
 none)
 none)
 none)
 (cond (leI 0 i4 && ltI i4 (↑(List.length l0) : Int))
 (cond (leI 0 i4 && ltI i4 (↑(List.length l0) : Int))
 (cond (leI (↑(7 + ByteArray.size (cT 1 (atL l0 i4))) : Int) (IntKind.max IntKind.i64))
 (cond (leI (↑(ByteArray.size (mk [32, 97, 108, 108, 111, 119, 32] ++ cT 1 (atL l0 i4)) + 1) : Int) (IntKind.max IntKind.i64))
 (cond (leI (↑(ByteArray.size (mk [32, 97, 108, 108, 111, 119, 32] ++ cT 1 (atL l0 i4) ++ mk [32]) + ByteArray.size (cT 2 (atL l0 i4))) : Int) (IntKind.max IntKind.i64))
 (cond (leI (↑(ByteArray.size (mk [32, 97, 108, 108, 111, 119, 32] ++ cT 1 (atL l0 i4) ++ mk [32] ++ cT 2 (atL l0 i4)) + 1) : Int) (IntKind.max IntKind.i64))
 (cond (leI (↑(ByteArray.size (mk [32, 97, 108, 108, 111, 119, 32] ++ cT 1 (atL l0 i4) ++ mk [32] ++ cT 2 (atL l0 i4) ++ mk [32]) + ByteArray.size (cT 3 (atL l0 i4))) : Int) (IntKind.max IntKind.i64))
 (cond (leI (↑(ByteArray.size s3 + ByteArray.size (mk [32, 97, 108, 108, 111, 119, 32] ++ cT 1 (atL l0 i4) ++ mk [32] ++ cT 2 (atL l0 i4) ++ mk [32] ++ cT 3 (atL l0 i4))) : Int) (IntKind.max IntKind.i64))
 (G (rrules_q3 l0 (s3 ++ (mk [32, 97, 108, 108, 111, 119, 32] ++ cT 1 (atL l0 i4) ++ mk [32] ++ cT 2 (atL l0 i4) ++ mk [32] ++ cT 3 (atL l0 i4))) (wrapI IntKind.i64 (i4 + 1))))
 none)
 none)
 none)
 none)
 none)
 none)
 none)
 none))
 (cond (bl (cT 2 (atL l0 i4)) == bl (mk []))
 (cond (leI 0 i4 && ltI i4 (↑(List.length l0) : Int))
 (cond (leI 0 i4 && ltI i4 (↑(List.length l0) : Int))
 (cond (leI (↑(6 + ByteArray.size (cT 1 (atL l0 i4))) : Int) (IntKind.max IntKind.i64))
 (cond (leI (↑(ByteArray.size (mk [32, 100, 101, 110, 121, 32] ++ cT 1 (atL l0 i4)) + 1) : Int) (IntKind.max IntKind.i64))
 (cond (leI (↑(ByteArray.size (mk [32, 100, 101, 110, 121, 32] ++ cT 1 (atL l0 i4) ++ mk [32]) + 1) : Int) (IntKind.max IntKind.i64))
 (cond (leI (↑(ByteArray.size (mk [32, 100, 101, 110, 121, 32] ++ cT 1 (atL l0 i4) ++ mk [32] ++ mk [45]) + 1) : Int) (IntKind.max IntKind.i64))
 (cond (leI (↑(ByteArray.size (mk [32, 100, 101, 110, 121, 32] ++ cT 1 (atL l0 i4) ++ mk [32] ++ mk [45] ++ mk [32]) + ByteArray.size (cT 3 (atL l0 i4))) : Int) (IntKind.max IntKind.i64))
 (cond (leI (↑(ByteArray.size s3 + ByteArray.size (mk [32, 100, 101, 110, 121, 32] ++ cT 1 (atL l0 i4) ++ mk [32] ++ mk [45] ++ mk [32] ++ cT 3 (atL l0 i4))) : Int) (IntKind.max IntKind.i64))
 (G (rrules_q3 l0 (s3 ++ (mk [32, 100, 101, 110, 121, 32] ++ cT 1 (atL l0 i4) ++ mk [32] ++ mk [45] ++ mk [32] ++ cT 3 (atL l0 i4))) (wrapI IntKind.i64 (i4 + 1))))
 none)
 none)
 none)
 none)
 none)
 none)
 none)
 none)
 (cond (leI 0 i4 && ltI i4 (↑(List.length l0) : Int))
 (cond (leI 0 i4 && ltI i4 (↑(List.length l0) : Int))
 (cond (leI (↑(6 + ByteArray.size (cT 1 (atL l0 i4))) : Int) (IntKind.max IntKind.i64))
 (cond (leI (↑(ByteArray.size (mk [32, 100, 101, 110, 121, 32] ++ cT 1 (atL l0 i4)) + 1) : Int) (IntKind.max IntKind.i64))
 (cond (leI (↑(ByteArray.size (mk [32, 100, 101, 110, 121, 32] ++ cT 1 (atL l0 i4) ++ mk [32]) + ByteArray.size (cT 2 (atL l0 i4))) : Int) (IntKind.max IntKind.i64))
 (cond (leI (↑(ByteArray.size (mk [32, 100, 101, 110, 121, 32] ++ cT 1 (atL l0 i4) ++ mk [32] ++ cT 2 (atL l0 i4)) + 1) : Int) (IntKind.max IntKind.i64))
 (cond (leI (↑(ByteArray.size (mk [32, 100, 101, 110, 121, 32] ++ cT 1 (atL l0 i4) ++ mk [32] ++ cT 2 (atL l0 i4) ++ mk [32]) + ByteArray.size (cT 3 (atL l0 i4))) : Int) (IntKind.max IntKind.i64))
 (cond (leI (↑(ByteArray.size s3 + ByteArray.size (mk [32, 100, 101, 110, 121, 32] ++ cT 1 (atL l0 i4) ++ mk [32] ++ cT 2 (atL l0 i4) ++ mk [32] ++ cT 3 (atL l0 i4))) : Int) (IntKind.max IntKind.i64))
 (G (rrules_q3 l0 (s3 ++ (mk [32, 100, 101, 110, 121, 32] ++ cT 1 (atL l0 i4) ++ mk [32] ++ cT 2 (atL l0 i4) ++ mk [32] ++ cT 3 (atL l0 i4))) (wrapI IntKind.i64 (i4 + 1))))
 none)
 none)
 none)
 none)
 none)
 none)
 none)
 none)))
 none)
 none)
 (some [(.str (s3))])) := by kernel_rfl

theorem rname_e (G : Req → R) (kind0 : Int) : runB (cfg []) G (.enter 35 [(.lf (.int IntKind.i64 (kind0)))] []) =
 (cond (ltI kind0 1)
 (some [(.str (mk []))])
 (cond (ltI (↑22 : Int) kind0)
 (some [(.str (mk []))])
 (cond (leI 0 (wrapI IntKind.i64 (kind0 - 1)) && ltI (wrapI IntKind.i64 (kind0 - 1)) (↑22 : Int))
 (some [(.str (cT 0 (atL [[L.str (mk [99, 111, 109, 109, 105, 116])], [L.str (mk [98, 114, 97, 110, 99, 104])], [L.str (mk [100, 114, 111, 112])], [L.str (mk [102, 111, 114, 119, 97, 114, 100])], [L.str (mk [105, 110, 103, 101, 115, 116])], [L.str (mk [109, 101, 114, 103, 101])], [L.str (mk [103, 114, 111, 117, 112])], [L.str (mk [114, 117, 108, 101, 115])], [L.str (mk [115, 101, 97, 114, 99, 104])], [L.str (mk [115, 97, 118, 101])], [L.str (mk [102, 111, 114, 103, 101, 116])], [L.str (mk [110, 111, 116, 105, 102, 121])], [L.str (mk [100, 101, 108, 105, 118, 101, 114])], [L.str (mk [116, 105, 99, 107])], [L.str (mk [114, 101, 110, 101, 119])], [L.str (mk [115, 121, 110, 99])], [L.str (mk [99, 114, 97, 115, 104])], [L.str (mk [115, 116, 97, 114, 116])], [L.str (mk [115, 108, 111, 119])], [L.str (mk [112, 114, 117, 110, 101])], [L.str (mk [114, 101, 119, 114, 105, 116, 101])], [L.str (mk [114, 101, 112, 111])]] (wrapI IntKind.i64 (kind0 - 1)))))])
 none))) := by kernel_rfl

end Go.Ab
namespace Go.Ab
open Go.Proofs

theorem decD_lo {u : Nat} (h : u < 10) : Lib.decDigits u = [UInt8.ofNat (48 + u)] := by rw [Lib.decDigits, dif_pos h]
theorem decD_hi {u : Nat} (h : ¬ u < 10) : Lib.decDigits u = Lib.decDigits (u / 10) ++ [UInt8.ofNat (48 + u % 10)] := by rw [Lib.decDigits, dif_neg h]
theorem decD_len : ∀ (k u : Nat), u < 10 ^ (k + 1) → (Lib.decDigits u).length ≤ k + 1
  | 0, u, h => by
    rw [decD_lo (by simpa using h)]
    exact Nat.le_refl _
  | k + 1, u, h => by
    by_cases h1 : u < 10
    · rw [decD_lo h1]; simp
    · rw [decD_hi h1, List.length_append, List.length_singleton]
      have := decD_len k (u / 10) (by rw [Nat.pow_succ] at h; omega)
      omega
theorem it_len {n : Int} (h : i64B n = true) : (it n).length ≤ 21 := by
  obtain ⟨h1, h2⟩ := i64B_of h
  have hp : (10 : Nat) ^ 20 = 100000000000000000000 := by decide
  unfold it Lib.itoa
  split
  · have := decD_len 19 n.natAbs (by rw [show 19 + 1 = 20 from rfl, hp]; omega)
    simp only [List.length_cons]; omega
  · have := decD_len 19 n.toNat (by rw [show 19 + 1 = 20 from rfl, hp]; omega)
    omega
theorem one_byte (k : Int) : ByteArray.mk (List.toArray (List.map (fun c => UInt8.ofNat (Int.toNat (cI 0 c))) [[L.int IntKind.u8 k]])) = mk [UInt8.ofNat k.toNat] := rfl
theorem dig_b {d : Nat} (h : d < 10) : wrapI IntKind.u8 (wrapI IntKind.i64 (48 + (d : Int))) = ((48 + d : Nat) : Int) := by
  rw [w64 (by omega) (by omega), w8 (by omega) (by omega)]; omega
theorem it_pos (n : Nat) : it (n : Int) = Lib.decDigits n := by
  unfold it Lib.itoa
  rw [if_neg (by omega), Int.toNat_natCast]
theorem it_neg (n : Nat) (h : 0 < n) : it (-(n : Int)) = 45 :: Lib.decDigits n := by
  unfold it Lib.itoa
  rw [if_pos (by omega)]
  congr 2
  omega
theorem imx : IntKind.max IntKind.i64 = 9223372036854775807 := rfl
theorem mk_app (a b : W) : mk a ++ mk b = mk (a ++ b) := by
  apply ByteArray.ext
  apply Array.toList_inj.1
  simp
theorem Number_holds : ∀ m : Nat, m ≤ 20 → Holds (k_Number m)
  | 0, _ => con_run (xs := []) hold0 fun aa hp r h => by
    split at h
    case h_2 => cases h
    rename_i n
    obtain ⟨g, rfl⟩ := xo h
    unfold gNum at g
    rw [Bool.and_eq_true, decide_eq_true_eq] at g
    obtain ⟨g1, g2⟩ := g
    exact absurd g2.1 (by omega)
  | m + 1, hm => con_run (xs := [k_Number m]) (hold1 (Number_holds m (by omega)) hold0) fun aa hp r h => by
    split at h
    case h_2 => cases h
    rename_i n
    obtain ⟨g, rfl⟩ := xo h
    unfold gNum at g
    rw [Bool.and_eq_true, decide_eq_true_eq] at g
    obtain ⟨g1, _, g2⟩ := g
    obtain ⟨b1, b2⟩ := i64B_of g1
    refine Runs.by (rnum_e · m n) ?_
    simp only [one_byte, dupN_eq, size_mk, mk_app]
    by_cases h0 : n < 0
    rotate_left
    · obtain ⟨u, rfl⟩ := Int.eq_ofNat_of_zero_le (Int.not_lt.1 h0)
      rw [it_pos]
      by_cases h1 : u < 10
      · rw [ev_le_t (by omega), ev_lt_t (by omega), dig_b h1, decD_lo h1]
        exact .ret
      · have e1 : Int.tmod (u : Int) 10 = ((u % 10 : Nat) : Int) := by rw [Int.tmod_eq_emod_of_nonneg (by omega)]; omega
        have e2 : Int.tdiv (u : Int) 10 = ((u / 10 : Nat) : Int) := by rw [Int.tdiv_eq_ediv_of_nonneg (by omega)]; omega
        have e3 : IntKind.wrap IntKind.i64 ((u / 10 : Nat) : Int) = ((u / 10 : Nat) : Int) := by rw [IntKind.wrap_i64]; omega
        rw [e1, e2, e3, it_pos]
        have hg : gNum m ((u / 10 : Nat) : Int) = true := by
          unfold gNum
          rw [Bool.and_eq_true, decide_eq_true_eq]
          refine ⟨i64B_t (by omega) (by omega), ?_⟩
          have hm0 : 0 < m := by
            rcases Nat.eq_zero_or_pos m with rfl | h
            · simp at g2; omega
            · exact h
          rw [Nat.pow_succ] at g2
          exact ⟨hm0, by omega⟩
        have hl := it_len (n := ((u / 10 : Nat) : Int)) (i64B_t (by omega) (by omega))
        rw [it_pos] at hl
        rw [ev_le_t (by omega), ev_lt_f (by omega), ev_lt_f (show (0 : Int) ≤ ((u % 10 : Nat) : Int) by omega), ev_lt_t (show (-10 : Int) < (u : Nat) by omega), ev_lt_f (show (0 : Int) ≤ (u : Nat) by omega), hg, dig_b (Nat.mod_lt _ (by decide)), imx]
        simp only [cond_true, cond_false]
        rw [ev_le_t (by simp only [List.length_cons, List.length_nil]; omega), decD_hi h1]
        exact .ret
    · obtain ⟨u, rfl⟩ : ∃ u : Nat, n = -(u : Int) := ⟨n.natAbs, by omega⟩
      have hu : 0 < u := by omega
      have e1 : Int.tmod (-(u : Int)) 10 = -((u % 10 : Nat) : Int) := by rw [Int.neg_tmod, Int.tmod_eq_emod_of_nonneg (by omega)]; omega
      have e2 : Int.tdiv (-(u : Int)) 10 = -((u / 10 : Nat) : Int) := by rw [Int.neg_tdiv, Int.tdiv_eq_ediv_of_nonneg (by omega)]; omega
      have e3 : IntKind.wrap IntKind.i64 (-((u / 10 : Nat) : Int)) = -((u / 10 : Nat) : Int) := by rw [IntKind.wrap_i64]; omega
      have e4 : wrapI IntKind.i64 (0 - -((u % 10 : Nat) : Int)) = ((u % 10 : Nat) : Int) := by rw [w64 (by omega) (by omega)]; omega
      rw [e1, e2, e3, e4, it_neg u hu]
      have hd := dig_b (Nat.mod_lt u (by decide : 0 < 10))
      rw [ev_le_f (by omega), hd]
      simp only [cond_false]
      -- the digit is the same either way
      have hb : ∀ (F1 F2 : (Req → R) → R) (T : List L), (0 < u % 10 → RunsF (cfg [k_Number m]) F1 T) → (u % 10 = 0 → RunsF (cfg [k_Number m]) F2 T) → RunsF (cfg [k_Number m]) (fun G => cond (ltI (-((u % 10 : Nat) : Int)) 0) (F1 G) (F2 G)) T := fun F1 F2 T q1 q2 => by
        rcases Nat.eq_zero_or_pos (u % 10) with h | h
        · rw [ev_lt_f (by omega)]; exact q2 h
        · rw [ev_lt_t (by omega)]; exact q1 h
      by_cases h1 : u < 10
      · rw [ev_lt_t (show (-10 : Int) < -(u : Int) by omega), ev_lt_t (show -(u : Int) < 0 by omega), decD_lo h1]
        have hm : u % 10 = u := Nat.mod_eq_of_lt h1
        refine hb _ _ _ (fun _ => ?_) (fun hz => absurd hz (by omega))
        rw [hm]
        exact .ret
      · have hg : gNum m (-((u / 10 : Nat) : Int)) = true := by
          unfold gNum
          rw [Bool.and_eq_true, decide_eq_true_eq]
          refine ⟨i64B_t (by omega) (by omega), ?_⟩
          have hm0 : 0 < m := by
            rcases Nat.eq_zero_or_pos m with rfl | h
            · simp at g2; omega
            · exact h
          rw [Nat.pow_succ] at g2
          exact ⟨hm0, by omega⟩
        have hl := it_len (n := -((u / 10 : Nat) : Int)) (i64B_t (by omega) (by omega))
        rw [it_neg (u / 10) (by omega)] at hl ⊢
        rw [ev_lt_f (show -(u : Int) ≤ (-10 : Int) by omega), hg, imx, decD_hi h1]
        simp only [cond_true, cond_false]
        refine hb _ _ _ (fun _ => ?_) (fun hz => ?_)
        · rw [ev_le_t (by simp only [List.length_cons, List.length_nil] at hl ⊢; omega)]
          exact .ret
        · have hz' : wrapI IntKind.u8 (wrapI IntKind.i64 (48 + -((u % 10 : Nat) : Int))) = ((48 + u % 10 : Nat) : Int) := by
            rw [hz]
            exact dig_b (by decide : 0 < 10)
          rw [hz', ev_le_t (by simp only [List.length_cons, List.length_nil] at hl ⊢; omega)]
          exact .ret
theorem Num_holds : Holds k_Num := fun aa hp r h => Number_holds 19 (by decide) aa hp r (by
  simp only [k_Num] at h
  simp only [k_Number]
  split at h
  case h_2 => cases h
  rename_i n
  obtain ⟨g, rfl⟩ := xo h
  have hb := i64B_of g
  have hp : (10 : Nat) ^ 19 = 10000000000000000000 := by decide
  have : gNum 19 n = true := by
    unfold gNum
    rw [g, Bool.true_and, decide_eq_true_eq, hp]
    omega
  rw [this])
end Go.Ab
namespace Go.Ab
open Go.Proofs

theorem qB_cons (c : UInt8) (l : W) : qB (c :: l) = qE c ++ qB l := List.flatMap_cons ..
theorem qE34 {c : UInt8} (h : c.toNat = 34) : qE c = [92, c] := by
  have : c = 34 := UInt8.toNat_inj.1 h
  subst this; rfl
theorem qE92 {c : UInt8} (h : c.toNat = 92) : qE c = [92, c] := by
  have : c = 92 := UInt8.toNat_inj.1 h
  subst this; rfl
theorem qE10 {c : UInt8} (h : c.toNat = 10) : qE c = [92, 110] := by
  have : c = 10 := UInt8.toNat_inj.1 h
  subst this; rfl
theorem qE9 {c : UInt8} (h : c.toNat = 9) : qE c = [92, 116] := by
  have : c = 9 := UInt8.toNat_inj.1 h
  subst this; rfl
theorem qEo {c : UInt8} (h1 : c.toNat ≠ 34) (h2 : c.toNat ≠ 92) (h3 : c.toNat ≠ 10) (h4 : c.toNat ≠ 9) : qE c = [c] := by
  unfold qE
  rw [if_neg]
  unfold isE
  omega
theorem eB2 (a b : UInt8) : [[L.int IntKind.u8 a.toNat], [L.int IntKind.u8 b.toNat]] = eB [a, b] := rfl
theorem eB1 (a : UInt8) : [[L.int IntKind.u8 a.toNat]] = eB [a] := rfl
theorem rquote_loop (s : W) (hs : s.length ≤ 1000000) : ∀ (m i : Nat) (acc : W), i + m = s.length → acc.length ≤ 2 * i + 1 → Runs (cfg []) (rquote_q3 (mk s) (i : Nat) (eB acc)) [.str (mk (acc ++ (qB (s.drop i) ++ [34])))]
  | 0, i, acc, h, ha => by
    refine Runs.by (rquote_p3 · _ _ _) ?_
    rw [drop_end (l := s) (by omega)]
    simp (disch := omega) only [size_mk, ev_lt_f, cond_false, eB_len, roomN_t, cond_true]
    have e : eB acc ++ [[L.int IntKind.u8 34]] = eB (acc ++ [34]) := eB_app acc [34]
    have e2 : ByteArray.mk (List.toArray (List.map (fun c => UInt8.ofNat (Int.toNat (cI 0 c))) (eB (acc ++ [34])))) = mk (acc ++ [34]) := congrArg mk (dB_e _)
    rw [e, e2]
    exact .ret
  | m + 1, i, acc, h, ha => by
    have hi : i < s.length := by omega
    have ih := fun w : W => fun hw : w.length ≤ 2 => rquote_loop s hs m (i + 1) (acc ++ w) (by omega) (by simp; omega)
    refine Runs.by (rquote_p3 · _ _ _) ?_
    rw [drop_at 0 hi, qB_cons]
    generalize hc : s.getD i 0 = c at *
    have hb : byI (mk s) (i : Int) = (c.toNat : Nat) := by rw [byI_mk, hc]
    simp (disch := omega) only [size_mk, ev_lt_t, ev_le_t, Bool.and_self, cond_true, eB_len, roomN_t, hb, w64]
    have go2 : ∀ a b : UInt8, qE c = [a, b] → Runs (cfg []) (rquote_q3 (mk s) ((i : Int) + 1) (eB acc ++ [[L.int IntKind.u8 a.toNat], [L.int IntKind.u8 b.toNat]])) [.str (mk (acc ++ (qE c ++ qB (s.drop (i + 1)) ++ [34])))] := fun a b e => by
      have := ih [a, b] (Nat.le_refl _)
      rw [← eB_app] at this
      rw [e, List.append_assoc, ← List.append_assoc acc]
      exact this
    by_cases h1 : c.toNat = 34
    · rw [ev_eq_t (by omega)]
      exact .go (go2 92 c (qE34 h1))
    · rw [ev_eq_f (by omega)]
      simp only [cond_false]
      by_cases h2 : c.toNat = 92
      · rw [ev_eq_t (by omega)]
        exact .go (go2 92 c (qE92 h2))
      · rw [ev_eq_f (by omega)]
        simp only [cond_false]
        by_cases h3 : c.toNat = 10
        · rw [ev_eq_t (by omega)]
          exact .go (go2 92 110 (qE10 h3))
        · rw [ev_eq_f (by omega)]
          simp only [cond_false]
          by_cases h4 : c.toNat = 9
          · rw [ev_eq_t (by omega)]
            exact .go (go2 92 116 (qE9 h4))
          · rw [ev_eq_f (by omega)]
            simp only [cond_false]
            have := ih [c] (by simp)
            rw [← eB_app] at this
            rw [qEo h1 h2 h3 h4, List.append_assoc, ← List.append_assoc acc]
            exact .go this
theorem rquote_holds : Holds k_rquote := conT_of (ks := []) hold0 fun s g => by
  refine Runs.by (rquote_e · _) ?_
  have := rquote_loop s (sm_of g) s.length 0 [34] (Nat.zero_add _) (by decide)
  rw [List.drop_zero] at this
  exact .go this

theorem nm_all22 : (List.range 22).all (fun i => decide (cT 0 (atL (eSs nmL) (i : Nat)) = mk (nmL.getD i []))) = true := by decide +kernel
theorem name_holds : Holds k_name := con_run (xs := []) hold0 fun aa hp r h => by
  split at h
  case h_2 => cases h
  rename_i k
  obtain ⟨g, rfl⟩ := xo h
  obtain ⟨b1, b2⟩ := i64B_of g
  refine Runs.by (rname_e · k) ?_
  unfold nmOf
  by_cases h1 : k < 1
  · rw [ev_lt_t h1, show leI 1 k = false from ev_le_f h1]
    exact .ret
  · rw [ev_lt_f (show (1 : Int) ≤ k by omega), show leI 1 k = true from ev_le_t (by omega)]
    simp only [cond_false, Bool.true_and]
    by_cases h2 : 22 < k
    · rw [show ltI 22 k = true from ev_lt_t h2, show leI k 22 = false from ev_le_f h2]
      exact .ret
    · obtain ⟨i, rfl⟩ : ∃ i : Nat, k = (i : Int) + 1 := ⟨(k - 1).toNat, by omega⟩
      have hi : i < 22 := by omega
      rw [show ltI 22 ((i : Int) + 1) = false from ev_lt_f (by omega), show leI ((i : Int) + 1) 22 = true from ev_le_t (by omega), w64 (by omega) (by omega)]
      have e1 : (i : Int) + 1 - 1 = (i : Int) := by omega
      have e2 := of_decide_eq_true (List.all_eq_true.1 nm_all22 i (List.mem_range.2 hi))
      rw [e1, show leI 0 (i : Int) = true from ev_le_t (by omega), show ltI (i : Int) 22 = true from ev_lt_t (by omega), Int.toNat_natCast, cond_true, ← e2]
      exact .ret

theorem tw_cons (a : W) (l : List W) : tw (a :: l) = 32 :: (a ++ tw l) := by unfold tw; rw [List.flatMap_cons]; rfl
theorem tw_app (a b : List W) : tw (a ++ b) = tw a ++ tw b := List.flatMap_append ..
theorem tw_nil : tw [] = [] := rfl
theorem rrules_loop (rs : List Ru) (hl : rs.length ≤ 1000000) : ∀ (m i : Nat) (acc : W), i + m = rs.length → acc.length + (tw ((rs.drop i).flatMap wR)).length ≤ 1000000 →
    Runs (cfg []) (rrules_q3 (eRs rs) (mk acc) (i : Nat)) [.str (mk (acc ++ tw ((rs.drop i).flatMap wR)))]
  | 0, i, acc, h, ha => by
    refine Runs.by (rrules_p3 · _ _ _) ?_
    rw [drop_end (l := rs) (by omega)]
    simp (disch := omega) only [eRs_len, ev_lt_f, cond_false]
    exact .ret' (by simp [tw])
  | m + 1, i, acc, h, ha => by
    have hi : i < rs.length := by omega
    rw [drop_at (false, [], [], []) hi, fm_cons, tw_app, List.length_append] at ha
    have ih := rrules_loop rs hl m (i + 1) (acc ++ tw (wR (rs.getD i (false, [], [], [])))) (by omega) (by rw [List.length_append]; omega)
    rw [List.append_assoc] at ih
    refine Runs.by (rrules_p3 · _ _ _) ?_
    rw [drop_at (false, [], [], []) hi, fm_cons, tw_app]
    have hx : atL (eRs rs) (i : Int) = eR1 (rs.getD i (false, [], [], [])) := atL_map _ rs i _ hi
    generalize rs.getD i (false, [], [], []) = x at *
    obtain ⟨a, g, r, gl⟩ := x
    have e1 : cT 1 (eR1 (a, g, r, gl)) = mk g := rfl
    have e2 : cT 2 (eR1 (a, g, r, gl)) = mk r := rfl
    have e3 : cT 3 (eR1 (a, g, r, gl)) = mk gl := rfl
    have e0 : cO 0 (eR1 (a, g, r, gl)) = a := rfl
    have hw : wR (a, g, r, gl) = [cond a wAllow wDeny, g, rq r, gl] := rfl
    rw [hw, tw_cons, tw_cons, tw_cons, tw_cons, tw_nil, List.append_nil] at ha ih ⊢
    simp only [List.length_append, List.length_cons] at ha
    have hq : (rq r).length = r.length + (if r.isEmpty then 1 else 0) := by
      unfold rq
      cases r <;> rfl
    have ha' : acc.length + (6 + g.length + 1 + (rq r).length + 1 + gl.length) ≤ 1000000 := by
      cases a
      · have : (cond false wAllow wDeny).length = 4 := rfl
        omega
      · have : (cond true wAllow wDeny).length = 5 := rfl
        omega
    have hb5 : ∀ b : Bool, (cond b wAllow wDeny).length ≤ 5 := fun b => by cases b <;> decide
    have hb5' := hb5 a
    have ha'' : acc.length + (7 + g.length + 1 + (rq r).length + 1 + gl.length) ≤ 1000001 := by omega
    have hr1 : r.isEmpty = true → (rq r).length = 1 := fun h => by rw [hq, h]; simp at h; simp [h]
    have hr0 : r.isEmpty = false → (rq r).length = r.length := fun h => by rw [hq, h]; simp
    simp only [hx, e0, e1, e2, e3, beq_nil, eRs_len, size_mk, mk_app, imx, List.length_append, List.length_cons, List.length_nil]
    rw [ev_lt_t (show (i : Int) < (rs.length : Nat) by omega), ev_le_t (show (0 : Int) ≤ (i : Nat) by omega), w64 (by omega) (by omega)]
    simp only [Bool.and_self, cond_true]
    cases a
    · cases hr : r.isEmpty
      · have := hr0 hr
        simp (disch := omega) only [cond_true, ev_le_t]
        have e : rq r = r := by unfold rq; rw [hr]; rfl
        rw [e] at ih ⊢
        exact .go (by simpa using ih)
      · have := hr1 hr
        simp (disch := omega) only [cond_true, ev_le_t]
        have e : rq r = [45] := by unfold rq; rw [hr]; rfl
        rw [e] at ih ⊢
        exact .go (by simpa using ih)
    · cases hr : r.isEmpty
      · have := hr0 hr
        simp (disch := omega) only [cond_true, ev_le_t]
        have e : rq r = r := by unfold rq; rw [hr]; rfl
        rw [e] at ih ⊢
        exact .go (by simpa using ih)
      · have := hr1 hr
        simp (disch := omega) only [cond_true, ev_le_t]
        have e : rq r = [45] := by unfold rq; rw [hr]; rfl
        rw [e] at ih ⊢
        exact .go (by simpa using ih)
theorem tw_len (l : List W) : (tw l).length = wl l := tl_len l
theorem rrules_holds : Holds k_rrules := con_run (xs := []) hold0 fun aa hp r h => by
  split at h
  case h_2 => cases h
  rename_i rs
  obtain ⟨g, rfl⟩ := xo h
  rw [Bool.and_eq_true] at g
  obtain ⟨_, _, rs, _, h0, h1, rfl, h2⟩ := isLs_of g.1
  rw [dRs_e] at g ⊢
  have g2 := sm_of g.2
  have hl := fm_len wR 1 wR_wl rs
  rw [tw_len] at g2
  refine Runs.by (rrules_e · _) ?_
  have := rrules_loop rs (by omega) rs.length 0 [] (Nat.zero_add _) (by rw [List.drop_zero, tw_len]; simp; omega)
  rw [List.drop_zero] at this
  exact .go this
end Go.Ab
namespace Go.Ab
open Go.Proofs
def wRes (x : List L) : W := it (cI 0 x) ++ 58 :: it (cI 1 x)
def wPro (x : List L) : List W := [[115, 104, 97, 114, 100], it (cI 0 x), it (cI 1 x), it (cI 2 x), it (cI 3 x)]
def rpW (rs ps : List (List L)) (c : Bool) (tot : Int) : List W := [[102, 111, 117, 110, 100], it tot, cond c [99, 111, 109, 112, 108, 101, 116, 101] [112, 97, 114, 116, 105, 97, 108]] ++ (rs.map wRes ++ ps.flatMap wPro)
def isN (k : Int) : Bool := k == 1 || (k == 4 || (k == 5 || (k == 10 || (k == 12 || (k == 13 || (k == 20 || k == 21))))))
def rpS (k err n : Int) (rs ps : List (List L)) (c : Bool) (tot : Int) : W :=
  cond (err != 0) ([101, 114, 114, 111, 114, 32] ++ it err) (cond (k == 9) (jn (rpW rs ps c tot)) (cond (isN k) ([111, 107, 32] ++ it n) [111, 107]))
def okRe (x : List L) : Bool := i64B (cI 0 x) && i64B (cI 1 x)
def okPr (x : List L) : Bool := (i64B (cI 0 x) && i64B (cI 1 x)) && (i64B (cI 2 x) && i64B (cI 3 x))
def gRp (err n : Int) (rs ps : List (List L)) (tot : Int) : Bool := (i64B err && (i64B n && i64B tot)) && ((rs.all okRe && ps.all okPr) && (Nat.ble rs.length 1000 && Nat.ble ps.length 1000))
def conRp : Con
  | [.agg [.int .i64 k, .str _, .str _, .str _, .int .i64 _, .int .i64 _, .int .i64 _, .int .i64 _, .str _, .str _, .lst 3 _, .lst 9 _, .lst 65 _, .lst 51 _], .agg [.int .i64 err, .int .i64 n, .lst 54 re, .lst 56 pr, .bool c, .int .i64 tot]], [] => some (gRp err n re pr tot, [.str (mk (rpS k err n re pr c tot))])
  | _, _ => none
def k_preply : Nat × Con := (n_script_Reply, conRp)
def k_rreply : Nat × Con := (n_codesearchref54_Reply, conRp)
end Go.Ab
namespace Go.Ab
open Go.Proofs
def k_alive : Nat × Con := (n_codesearchlaw54_alive, fun
  | [], [] => some (true, [.bool true])
  | _, _ => none)
def le2 (w : W) : Bool := Nat.ble w.length 200
def sm1 (e : Ev) : Bool := ((Nat.ble e.writes.length 6 && Nat.ble e.rules.length 6) && (Nat.ble e.users.length 6 && Nat.ble e.groups.length 6)) && (((le2 e.text && le2 e.other) && (le2 e.name && (le2 e.repo && le2 e.gname))) &&
  (e.writes.all (fun x => le2 x.2.1 && le2 x.1) && (e.rules.all (fun x => le2 x.2.1 && (le2 x.2.2.1 && le2 x.2.2.2)) && e.groups.all le2)))
def smallB (l : List Ev) : Bool := Nat.ble l.length 10 && l.all sm1
noncomputable def k_small : Nat × Con := (n_codesearchlaw54_small, fun
  | [.lf (.lst 42 xs)], [] => some (isEs xs, [.bool (smallB (dEs xs))])
  | _, _ => none)
end Go.Ab
namespace Go.Ab
open Go.Proofs
theorem alive_e (G : Req → R) : runB (cfg [k_pparse, k_SameList, k_pline, k_preply]) G (.enter 7 [] []) =
 (cond (isEs (eEs (PR.l (parP (bl (mk [114, 101, 112, 111, 32, 99, 111, 114, 101, 10, 35, 32, 120, 10, 116, 105, 99, 107, 32, 51, 10]))))) && (isEs [[L.int IntKind.i64 22, L.str (mk [99, 111, 114, 101]), L.str (mk []), L.str (mk []), L.int IntKind.i64 0, L.int IntKind.i64 0, L.int IntKind.i64 0, L.int IntKind.i64 0, L.str (mk []), L.str (mk []), L.lst 3 [], L.lst 9 [], L.lst 65 [], L.lst 51 []], [L.int IntKind.i64 14, L.str (mk []), L.str (mk []), L.str (mk []), L.int IntKind.i64 0, L.int IntKind.i64 3, L.int IntKind.i64 0, L.int IntKind.i64 0, L.str (mk []), L.str (mk []), L.lst 3 [], L.lst 9 [], L.lst 65 [], L.lst 51 []]] && true))
 (cond (isLs [] [] [] [[L.str (mk [97]), L.str (mk [120, 10]), L.bool false], [L.str (mk [98]), L.str (mk []), L.bool true]] && true)
 (some [(.bool (true))])
 none)
 none) := by kernel_rfl

noncomputable def small_q4 (l0 : List (List L)) (i3 : Int) : Req := .point 13 [] (todoAt Tryz.prog 13 4) ⟨[(.lf (.lst 42 l0)), an, an, (.lf (.int IntKind.i64 i3)), an, an, an, an, an, an, an, an, an, an, an, an, an, an, an, an, an, an, an, an, an, an, an, an, an, an, an, an, an, an, an, an, an, an, an, an, an, an, an, an, an, an, an, an, an, an, an, an, an, an, an, an, an, an, an, an, an, an, an, an, an, an, an, an, an, an, an, an, an, an, an, an, an, an, an, an, an, an, an, an, an, an, an, an, an, an, an, an, an, an, an, an, an, an, an, an, an, an, an, an, an, an, an, an, an, an, an, an, an, an, an, an, an, an, an, an, an, an, an, an, an, an, an, an, an, an, an, an, an, an, an, an, an, an, an, an, an, an, an, an, an, an, an, an, an, an, an, an], []⟩
noncomputable def small_q10 (l0 : List (List L)) (i3 : Int) (k5 : Int) (h0_0 : Int) (h0_1 : ByteArray) (h0_2 : ByteArray) (h0_3 : ByteArray) (h0_4 : Int) (h0_5 : Int) (h0_6 : Int) (h0_7 : Int) (h0_8 : ByteArray) (h0_9 : ByteArray) (h0_10 : List (List L)) (h0_11 : List (List L)) (h0_12 : List (List L)) (h0_13 : List (List L)) : Req := .point 13 [] (todoAt Tryz.prog 13 10) ⟨[(.lf (.lst 42 l0)), an, an, (.lf (.int IntKind.i64 i3)), (.lf (.ptr 0 0)), (.lf (.int IntKind.i64 k5)), an, an, an, an, an, an, an, an, an, an, an, an, an, an, an, an, an, an, an, an, an, an, an, an, an, an, an, an, an, an, an, an, an, an, an, an, an, an, an, an, an, an, an, an, an, an, an, an, an, an, an, an, an, an, an, an, an, an, an, an, an, an, an, an, an, an, an, an, an, an, an, an, an, an, an, an, an, an, an, an, an, an, an, an, an, an, an, an, an, an, an, an, an, an, an, an, an, an, an, an, an, an, an, an, an, an, an, an, an, an, an, an, an, an, an, an, an, an, an, an, an, an, an, an, an, an, an, an, an, an, an, an, an, an, an, an, an, an, an, an, an, an, an, an, an, an], [(.box [(.int IntKind.i64), .str, .str, .str, (.int IntKind.i64), (.int IntKind.i64), (.int IntKind.i64), (.int IntKind.i64), .str, .str, (.sl 3), (.sl 9), (.sl 65), (.sl 51)] [(.int IntKind.i64 h0_0), (.str h0_1), (.str h0_2), (.str h0_3), (.int IntKind.i64 h0_4), (.int IntKind.i64 h0_5), (.int IntKind.i64 h0_6), (.int IntKind.i64 h0_7), (.str h0_8), (.str h0_9), (.lst 3 h0_10), (.lst 9 h0_11), (.lst 65 h0_12), (.lst 51 h0_13)])]⟩
noncomputable def small_q15 (l0 : List (List L)) (i3 : Int) (k6 : Int) (h0_0 : Int) (h0_1 : ByteArray) (h0_2 : ByteArray) (h0_3 : ByteArray) (h0_4 : Int) (h0_5 : Int) (h0_6 : Int) (h0_7 : Int) (h0_8 : ByteArray) (h0_9 : ByteArray) (h0_10 : List (List L)) (h0_11 : List (List L)) (h0_12 : List (List L)) (h0_13 : List (List L)) : Req := .point 13 [] (todoAt Tryz.prog 13 15) ⟨[(.lf (.lst 42 l0)), an, an, (.lf (.int IntKind.i64 i3)), (.lf (.ptr 0 0)), an, (.lf (.int IntKind.i64 k6)), an, an, an, an, an, an, an, an, an, an, an, an, an, an, an, an, an, an, an, an, an, an, an, an, an, an, an, an, an, an, an, an, an, an, an, an, an, an, an, an, an, an, an, an, an, an, an, an, an, an, an, an, an, an, an, an, an, an, an, an, an, an, an, an, an, an, an, an, an, an, an, an, an, an, an, an, an, an, an, an, an, an, an, an, an, an, an, an, an, an, an, an, an, an, an, an, an, an, an, an, an, an, an, an, an, an, an, an, an, an, an, an, an, an, an, an, an, an, an, an, an, an, an, an, an, an, an, an, an, an, an, an, an, an, an, an, an, an, an, an, an, an, an, an, an], [(.box [(.int IntKind.i64), .str, .str, .str, (.int IntKind.i64), (.int IntKind.i64), (.int IntKind.i64), (.int IntKind.i64), .str, .str, (.sl 3), (.sl 9), (.sl 65), (.sl 51)] [(.int IntKind.i64 h0_0), (.str h0_1), (.str h0_2), (.str h0_3), (.int IntKind.i64 h0_4), (.int IntKind.i64 h0_5), (.int IntKind.i64 h0_6), (.int IntKind.i64 h0_7), (.str h0_8), (.str h0_9), (.lst 3 h0_10), (.lst 9 h0_11), (.lst 65 h0_12), (.lst 51 h0_13)])]⟩
noncomputable def small_q20 (l0 : List (List L)) (i3 : Int) (k7 : Int) (h0_0 : Int) (h0_1 : ByteArray) (h0_2 : ByteArray) (h0_3 : ByteArray) (h0_4 : Int) (h0_5 : Int) (h0_6 : Int) (h0_7 : Int) (h0_8 : ByteArray) (h0_9 : ByteArray) (h0_10 : List (List L)) (h0_11 : List (List L)) (h0_12 : List (List L)) (h0_13 : List (List L)) : Req := .point 13 [] (todoAt Tryz.prog 13 20) ⟨[(.lf (.lst 42 l0)), an, an, (.lf (.int IntKind.i64 i3)), (.lf (.ptr 0 0)), an, an, (.lf (.int IntKind.i64 k7)), an, an, an, an, an, an, an, an, an, an, an, an, an, an, an, an, an, an, an, an, an, an, an, an, an, an, an, an, an, an, an, an, an, an, an, an, an, an, an, an, an, an, an, an, an, an, an, an, an, an, an, an, an, an, an, an, an, an, an, an, an, an, an, an, an, an, an, an, an, an, an, an, an, an, an, an, an, an, an, an, an, an, an, an, an, an, an, an, an, an, an, an, an, an, an, an, an, an, an, an, an, an, an, an, an, an, an, an, an, an, an, an, an, an, an, an, an, an, an, an, an, an, an, an, an, an, an, an, an, an, an, an, an, an, an, an, an, an, an, an, an, an, an, an], [(.box [(.int IntKind.i64), .str, .str, .str, (.int IntKind.i64), (.int IntKind.i64), (.int IntKind.i64), (.int IntKind.i64), .str, .str, (.sl 3), (.sl 9), (.sl 65), (.sl 51)] [(.int IntKind.i64 h0_0), (.str h0_1), (.str h0_2), (.str h0_3), (.int IntKind.i64 h0_4), (.int IntKind.i64 h0_5), (.int IntKind.i64 h0_6), (.int IntKind.i64 h0_7), (.str h0_8), (.str h0_9), (.lst 3 h0_10), (.lst 9 h0_11), (.lst 65 h0_12), (.lst 51 h0_13)])]⟩
theorem small_e (G : Req → R) (l0 : List (List L)) : runB (cfg []) G (.enter 13 [(.lf (.lst 42 l0))] []) =
 (cond (ltI 10 (↑(List.length l0) : Int))
 (some [(.bool (false))])
 (G (small_q4 l0 0))) := by kernel_rfl
theorem small_p4 (G : Req → R) (l0 : List (List L)) (i3 : Int) : runB (cfg []) G (small_q4 l0 i3) =
 (cond (ltI i3 (↑(List.length l0) : Int))
 (cond (leI 0 i3 && ltI i3 (↑(List.length l0) : Int))
 (cond (ltI 6 (↑(List.length (cX 13 (atL l0 i3))) : Int))
 (some [(.bool (false))])
 (cond (ltI 6 (↑(List.length (cX 12 (atL l0 i3))) : Int))
 (some [(.bool (false))])
 (cond (ltI 6 (↑(List.length (cX 10 (atL l0 i3))) : Int))
 (some [(.bool (false))])
 (cond (ltI 6 (↑(List.length (cX 11 (atL l0 i3))) : Int))
 (some [(.bool (false))])
 (cond (ltI 200 (↑(ByteArray.size (cT 8 (atL l0 i3))) : Int))
 (some [(.bool (false))])
 (cond (ltI 200 (↑(ByteArray.size (cT 3 (atL l0 i3))) : Int))
 (some [(.bool (false))])
 (cond (ltI 200 (↑(ByteArray.size (cT 2 (atL l0 i3))) : Int))
 (some [(.bool (false))])
 (cond (ltI 200 (↑(ByteArray.size (cT 1 (atL l0 i3))) : Int))
 (some [(.bool (false))])
 (cond (ltI 200 (↑(ByteArray.size (cT 9 (atL l0 i3))) : Int))
 (some [(.bool (false))])
 (G (small_q10 l0 i3 0 (cI 0 (atL l0 i3)) (cT 1 (atL l0 i3)) (cT 2 (atL l0 i3)) (cT 3 (atL l0 i3)) (cI 4 (atL l0 i3)) (cI 5 (atL l0 i3)) (cI 6 (atL l0 i3)) (cI 7 (atL l0 i3)) (cT 8 (atL l0 i3)) (cT 9 (atL l0 i3)) (cX 10 (atL l0 i3)) (cX 11 (atL l0 i3)) (cX 12 (atL l0 i3)) (cX 13 (atL l0 i3)))))))))))))
 none)
 (some [(.bool (true))])) := by kernel_rfl
theorem small_p10 (G : Req → R) (l0 : List (List L)) (i3 : Int) (k5 : Int) (h0_0 : Int) (h0_1 : ByteArray) (h0_2 : ByteArray) (h0_3 : ByteArray) (h0_4 : Int) (h0_5 : Int) (h0_6 : Int) (h0_7 : Int) (h0_8 : ByteArray) (h0_9 : ByteArray) (h0_10 : List (List L)) (h0_11 : List (List L)) (h0_12 : List (List L)) (h0_13 : List (List L)) : runB (cfg []) G (small_q10 l0 i3 k5 h0_0 h0_1 h0_2 h0_3 h0_4 h0_5 h0_6 h0_7 h0_8 h0_9 h0_10 h0_11 h0_12 h0_13) =
 (cond (ltI k5 (↑(List.length h0_13) : Int))
 (cond (leI 0 k5 && ltI k5 (↑(List.length h0_13) : Int))
 (cond (ltI 200 (↑(ByteArray.size (cT 1 (atL h0_13 k5))) : Int))
 (some [(.bool (false))])
 (cond (leI 0 k5 && ltI k5 (↑(List.length h0_13) : Int))
 (cond (ltI 200 (↑(ByteArray.size (cT 0 (atL h0_13 k5))) : Int))
 (some [(.bool (false))])
 (G (small_q10 l0 i3 (wrapI IntKind.i64 (k5 + 1)) h0_0 h0_1 h0_2 h0_3 h0_4 h0_5 h0_6 h0_7 h0_8 h0_9 h0_10 h0_11 h0_12 h0_13)))
 none))
 none)
 (G (small_q15 l0 i3 0 h0_0 h0_1 h0_2 h0_3 h0_4 h0_5 h0_6 h0_7 h0_8 h0_9 h0_10 h0_11 h0_12 h0_13))) := by kernel_rfl
theorem small_p15 (G : Req → R) (l0 : List (List L)) (i3 : Int) (k6 : Int) (h0_0 : Int) (h0_1 : ByteArray) (h0_2 : ByteArray) (h0_3 : ByteArray) (h0_4 : Int) (h0_5 : Int) (h0_6 : Int) (h0_7 : Int) (h0_8 : ByteArray) (h0_9 : ByteArray) (h0_10 : List (List L)) (h0_11 : List (List L)) (h0_12 : List (List L)) (h0_13 : List (List L)) : runB (cfg []) G (small_q15 l0 i3 k6 h0_0 h0_1 h0_2 h0_3 h0_4 h0_5 h0_6 h0_7 h0_8 h0_9 h0_10 h0_11 h0_12 h0_13) =
 (cond (ltI k6 (↑(List.length h0_12) : Int))
 (cond (leI 0 k6 && ltI k6 (↑(List.length h0_12) : Int))
 (cond (ltI 200 (↑(ByteArray.size (cT 1 (atL h0_12 k6))) : Int))
 (some [(.bool (false))])
 (cond (leI 0 k6 && ltI k6 (↑(List.length h0_12) : Int))
 (cond (ltI 200 (↑(ByteArray.size (cT 2 (atL h0_12 k6))) : Int))
 (some [(.bool (false))])
 (cond (leI 0 k6 && ltI k6 (↑(List.length h0_12) : Int))
 (cond (ltI 200 (↑(ByteArray.size (cT 3 (atL h0_12 k6))) : Int))
 (some [(.bool (false))])
 (G (small_q15 l0 i3 (wrapI IntKind.i64 (k6 + 1)) h0_0 h0_1 h0_2 h0_3 h0_4 h0_5 h0_6 h0_7 h0_8 h0_9 h0_10 h0_11 h0_12 h0_13)))
 none))
 none))
 none)
 (G (small_q20 l0 i3 0 h0_0 h0_1 h0_2 h0_3 h0_4 h0_5 h0_6 h0_7 h0_8 h0_9 h0_10 h0_11 h0_12 h0_13))) := by kernel_rfl
theorem small_p20 (G : Req → R) (l0 : List (List L)) (i3 : Int) (k7 : Int) (h0_0 : Int) (h0_1 : ByteArray) (h0_2 : ByteArray) (h0_3 : ByteArray) (h0_4 : Int) (h0_5 : Int) (h0_6 : Int) (h0_7 : Int) (h0_8 : ByteArray) (h0_9 : ByteArray) (h0_10 : List (List L)) (h0_11 : List (List L)) (h0_12 : List (List L)) (h0_13 : List (List L)) : runB (cfg []) G (small_q20 l0 i3 k7 h0_0 h0_1 h0_2 h0_3 h0_4 h0_5 h0_6 h0_7 h0_8 h0_9 h0_10 h0_11 h0_12 h0_13) =
 (cond (ltI k7 (↑(List.length h0_11) : Int))
 (cond (leI 0 k7 && ltI k7 (↑(List.length h0_11) : Int))
 (cond (ltI 200 (↑(ByteArray.size (cT 0 (atL h0_11 k7))) : Int))
 (some [(.bool (false))])
 (G (small_q20 l0 i3 (wrapI IntKind.i64 (k7 + 1)) h0_0 h0_1 h0_2 h0_3 h0_4 h0_5 h0_6 h0_7 h0_8 h0_9 h0_10 h0_11 h0_12 h0_13)))
 none)
 (G (small_q4 l0 (wrapI IntKind.i64 (i3 + 1))))) := by kernel_rfl

theorem lParses_e (G : Req → R) (s0 : ByteArray) : runB (cfg [k_alive, k_pparse, k_rparse, k_SameList]) G (.enter 3 [(.lf (.str (s0)))] []) =
 (cond (ltI 2000 (↑(ByteArray.size s0) : Int))
 (some [(.bool (true))])
 (cond (sm (List.length (bl s0)))
 (cond (sm (List.length (bl s0)))
 (cond (PR.x (parP (bl s0)) == PR.x (parA (bl s0)))
 (cond (PR.n (parP (bl s0)) == PR.n (parA (bl s0)))
 (cond (isEs (eEs (PR.l (parP (bl s0)))) && (isEs (eEs (PR.l (parA (bl s0)))) && (sm (List.length (eEs (PR.l (parA (bl s0))))) && List.all (dEs (eEs (PR.l (parA (bl s0))))) smE)))
 (some [(.bool (decide (dEs (eEs (PR.l (parP (bl s0)))) = dEs (eEs (PR.l (parA (bl s0)))))))])
 none)
 (some [(.bool (false))]))
 (some [(.bool (false))]))
 none)
 none)) := by kernel_rfl

noncomputable def lPrints_q10 (l0 : List (List L)) (i7 : Int) : Req := .point 5 [] (todoAt Tryz.prog 5 10) ⟨[(.lf (.lst 42 l0)), an, an, an, an, an, an, (.lf (.int IntKind.i64 i7)), an, an, an, an, an, an, an, an, an, an, an, an, an, an, an, an, an, an, an, an, an, an, an, an, an, an, an, an, an, an, an, an, an, an, an, an, an, an, an, an, an, an, an, an, an, an, an, an, an, an, an, an, an, an, an, an, an], []⟩
theorem lPrints_e (G : Req → R) (l0 : List (List L)) : runB (cfg [k_alive, k_small, k_pprint, k_rprint, k_pline, k_rline]) G (.enter 5 [(.lf (.lst 42 l0))] []) =
 (cond (isEs l0)
 (cond (!smallB (dEs l0))
 (some [(.bool (true))])
 (cond (isEs l0 && (Nat.ble (List.length l0) 10000 && List.all (dEs l0) gLn))
 (cond (isEs l0 && (Nat.ble (List.length l0) 10000 && List.all (dEs l0) gRl))
 (cond (Prod.snd (prR lnR (dEs l0) []) != Prod.snd (prR rlnR (dEs l0) []))
 (some [(.bool (false))])
 (cond (!bl (mk (Prod.fst (prR lnR (dEs l0) []))) == bl (mk (Prod.fst (prR rlnR (dEs l0) []))))
 (some [(.bool (false))])
 (G (lPrints_q10 l0 0))))
 none)
 none))
 none) := by kernel_rfl
theorem lPrints_p10 (G : Req → R) (l0 : List (List L)) (i7 : Int) : runB (cfg [k_alive, k_small, k_pprint, k_rprint, k_pline, k_rline]) G (lPrints_q10 l0 i7) =
 (cond (ltI i7 (↑(List.length l0) : Int))
 (cond (leI 0 i7 && ltI i7 (↑(List.length l0) : Int))
 (cond (isLs (cX 10 (atL l0 i7)) (cX 11 (atL l0 i7)) (cX 12 (atL l0 i7)) (cX 13 (atL l0 i7)) && gLn (Ev.mk (cI 0 (atL l0 i7)) (bl (cT 1 (atL l0 i7))) (bl (cT 2 (atL l0 i7))) (bl (cT 3 (atL l0 i7))) (cI 4 (atL l0 i7)) (cI 5 (atL l0 i7)) (cI 6 (atL l0 i7)) (cI 7 (atL l0 i7)) (bl (cT 8 (atL l0 i7))) (bl (cT 9 (atL l0 i7))) (dIs (cX 10 (atL l0 i7))) (dSs (cX 11 (atL l0 i7))) (dRs (cX 12 (atL l0 i7))) (dWs (cX 13 (atL l0 i7)))))
 (cond (leI 0 i7 && ltI i7 (↑(List.length l0) : Int))
 (cond (isLs (cX 10 (atL l0 i7)) (cX 11 (atL l0 i7)) (cX 12 (atL l0 i7)) (cX 13 (atL l0 i7)) && gRl (Ev.mk (cI 0 (atL l0 i7)) (bl (cT 1 (atL l0 i7))) (bl (cT 2 (atL l0 i7))) (bl (cT 3 (atL l0 i7))) (cI 4 (atL l0 i7)) (cI 5 (atL l0 i7)) (cI 6 (atL l0 i7)) (cI 7 (atL l0 i7)) (bl (cT 8 (atL l0 i7))) (bl (cT 9 (atL l0 i7))) (dIs (cX 10 (atL l0 i7))) (dSs (cX 11 (atL l0 i7))) (dRs (cX 12 (atL l0 i7))) (dWs (cX 13 (atL l0 i7)))))
 (cond (Prod.snd (lnR (Ev.mk (cI 0 (atL l0 i7)) (bl (cT 1 (atL l0 i7))) (bl (cT 2 (atL l0 i7))) (bl (cT 3 (atL l0 i7))) (cI 4 (atL l0 i7)) (cI 5 (atL l0 i7)) (cI 6 (atL l0 i7)) (cI 7 (atL l0 i7)) (bl (cT 8 (atL l0 i7))) (bl (cT 9 (atL l0 i7))) (dIs (cX 10 (atL l0 i7))) (dSs (cX 11 (atL l0 i7))) (dRs (cX 12 (atL l0 i7))) (dWs (cX 13 (atL l0 i7))))) != Prod.snd (rlnR (Ev.mk (cI 0 (atL l0 i7)) (bl (cT 1 (atL l0 i7))) (bl (cT 2 (atL l0 i7))) (bl (cT 3 (atL l0 i7))) (cI 4 (atL l0 i7)) (cI 5 (atL l0 i7)) (cI 6 (atL l0 i7)) (cI 7 (atL l0 i7)) (bl (cT 8 (atL l0 i7))) (bl (cT 9 (atL l0 i7))) (dIs (cX 10 (atL l0 i7))) (dSs (cX 11 (atL l0 i7))) (dRs (cX 12 (atL l0 i7))) (dWs (cX 13 (atL l0 i7))))))
 (some [(.bool (false))])
 (cond (!bl (mk (Prod.fst (lnR (Ev.mk (cI 0 (atL l0 i7)) (bl (cT 1 (atL l0 i7))) (bl (cT 2 (atL l0 i7))) (bl (cT 3 (atL l0 i7))) (cI 4 (atL l0 i7)) (cI 5 (atL l0 i7)) (cI 6 (atL l0 i7)) (cI 7 (atL l0 i7)) (bl (cT 8 (atL l0 i7))) (bl (cT 9 (atL l0 i7))) (dIs (cX 10 (atL l0 i7))) (dSs (cX 11 (atL l0 i7))) (dRs (cX 12 (atL l0 i7))) (dWs (cX 13 (atL l0 i7))))))) == bl (mk (Prod.fst (rlnR (Ev.mk (cI 0 (atL l0 i7)) (bl (cT 1 (atL l0 i7))) (bl (cT 2 (atL l0 i7))) (bl (cT 3 (atL l0 i7))) (cI 4 (atL l0 i7)) (cI 5 (atL l0 i7)) (cI 6 (atL l0 i7)) (cI 7 (atL l0 i7)) (bl (cT 8 (atL l0 i7))) (bl (cT 9 (atL l0 i7))) (dIs (cX 10 (atL l0 i7))) (dSs (cX 11 (atL l0 i7))) (dRs (cX 12 (atL l0 i7))) (dWs (cX 13 (atL l0 i7))))))))
 (some [(.bool (false))])
 (G (lPrints_q10 l0 (wrapI IntKind.i64 (i7 + 1))))))
 none)
 none)
 none)
 none)
 (some [(.bool (true))])) := by kernel_rfl

theorem lBack_e (G : Req → R) (l0 : List (List L)) (s1 : ByteArray) : runB (cfg [k_alive, k_small, k_pprint, k_pparse, k_SameList]) G (.enter 6 [(.lf (.lst 42 l0)), (.lf (.str (s1)))] []) =
 (cond (isEs l0)
 (cond (!smallB (dEs l0))
 (some [(.bool (true))])
 (cond (ltI 2000 (↑(ByteArray.size s1) : Int))
 (some [(.bool (true))])
 (cond (isEs l0 && (Nat.ble (List.length l0) 10000 && List.all (dEs l0) gLn))
 (cond (Prod.snd (prR lnR (dEs l0) []) == 0)
 (cond (leI (↑(ByteArray.size (mk (Prod.fst (prR lnR (dEs l0) [])))) : Int) 8000)
 (cond (sm (List.length (bl (mk (Prod.fst (prR lnR (dEs l0) []))))))
 (cond (PR.x (parP (bl (mk (Prod.fst (prR lnR (dEs l0) []))))) != 0)
 (some [(.bool (false))])
 (cond (PR.n (parP (bl (mk (Prod.fst (prR lnR (dEs l0) []))))) != 0)
 (some [(.bool (false))])
 (cond (isEs (eEs (PR.l (parP (bl (mk (Prod.fst (prR lnR (dEs l0) []))))))) && (isEs l0 && (sm (List.length l0) && List.all (dEs l0) smE)))
 (cond (!decide (dEs (eEs (PR.l (parP (bl (mk (Prod.fst (prR lnR (dEs l0) []))))))) = dEs l0))
 (some [(.bool (false))])
 (cond (sm (List.length (bl s1)))
 (cond (PR.x (parP (bl s1)) != 0)
 (some [(.bool ((↑(List.length (eEs (PR.l (parP (bl s1))))) : Int) == 0))])
 (cond (isEs (eEs (PR.l (parP (bl s1)))) && (Nat.ble (List.length (eEs (PR.l (parP (bl s1))))) 10000 && List.all (dEs (eEs (PR.l (parP (bl s1))))) gLn))
 (cond (Prod.snd (prR lnR (dEs (eEs (PR.l (parP (bl s1))))) []) != 0)
 (some [(.bool (false))])
 (cond (sm (List.length (bl (mk (Prod.fst (prR lnR (dEs (eEs (PR.l (parP (bl s1))))) []))))))
 (cond (ltI 8000 (↑(ByteArray.size (mk (Prod.fst (prR lnR (dEs (eEs (PR.l (parP (bl s1))))) [])))) : Int))
 (some [(.bool (true))])
 (cond (PR.x (parP (bl (mk (Prod.fst (prR lnR (dEs (eEs (PR.l (parP (bl s1))))) []))))) == 0)
 (cond (isEs (eEs (PR.l (parP (bl (mk (Prod.fst (prR lnR (dEs (eEs (PR.l (parP (bl s1))))) []))))))) && (isEs (eEs (PR.l (parP (bl s1)))) && (sm (List.length (eEs (PR.l (parP (bl s1))))) && List.all (dEs (eEs (PR.l (parP (bl s1))))) smE)))
 (some [(.bool (decide (dEs (eEs (PR.l (parP (bl (mk (Prod.fst (prR lnR (dEs (eEs (PR.l (parP (bl s1))))) []))))))) = dEs (eEs (PR.l (parP (bl s1)))))))])
 none)
 (some [(.bool (false))])))
 none))
 none))
 none))
 none)))
 none)
 (cond (sm (List.length (bl s1)))
 (cond (PR.x (parP (bl s1)) != 0)
 (some [(.bool ((↑(List.length (eEs (PR.l (parP (bl s1))))) : Int) == 0))])
 (cond (isEs (eEs (PR.l (parP (bl s1)))) && (Nat.ble (List.length (eEs (PR.l (parP (bl s1))))) 10000 && List.all (dEs (eEs (PR.l (parP (bl s1))))) gLn))
 (cond (Prod.snd (prR lnR (dEs (eEs (PR.l (parP (bl s1))))) []) != 0)
 (some [(.bool (false))])
 (cond (sm (List.length (bl (mk (Prod.fst (prR lnR (dEs (eEs (PR.l (parP (bl s1))))) []))))))
 (cond (ltI 8000 (↑(ByteArray.size (mk (Prod.fst (prR lnR (dEs (eEs (PR.l (parP (bl s1))))) [])))) : Int))
 (some [(.bool (true))])
 (cond (PR.x (parP (bl (mk (Prod.fst (prR lnR (dEs (eEs (PR.l (parP (bl s1))))) []))))) == 0)
 (cond (isEs (eEs (PR.l (parP (bl (mk (Prod.fst (prR lnR (dEs (eEs (PR.l (parP (bl s1))))) []))))))) && (isEs (eEs (PR.l (parP (bl s1)))) && (sm (List.length (eEs (PR.l (parP (bl s1))))) && List.all (dEs (eEs (PR.l (parP (bl s1))))) smE)))
 (some [(.bool (decide (dEs (eEs (PR.l (parP (bl (mk (Prod.fst (prR lnR (dEs (eEs (PR.l (parP (bl s1))))) []))))))) = dEs (eEs (PR.l (parP (bl s1)))))))])
 none)
 (some [(.bool (false))])))
 none))
 none))
 none))
 (cond (sm (List.length (bl s1)))
 (cond (PR.x (parP (bl s1)) != 0)
 (some [(.bool ((↑(List.length (eEs (PR.l (parP (bl s1))))) : Int) == 0))])
 (cond (isEs (eEs (PR.l (parP (bl s1)))) && (Nat.ble (List.length (eEs (PR.l (parP (bl s1))))) 10000 && List.all (dEs (eEs (PR.l (parP (bl s1))))) gLn))
 (cond (Prod.snd (prR lnR (dEs (eEs (PR.l (parP (bl s1))))) []) != 0)
 (some [(.bool (false))])
 (cond (sm (List.length (bl (mk (Prod.fst (prR lnR (dEs (eEs (PR.l (parP (bl s1))))) []))))))
 (cond (ltI 8000 (↑(ByteArray.size (mk (Prod.fst (prR lnR (dEs (eEs (PR.l (parP (bl s1))))) [])))) : Int))
 (some [(.bool (true))])
 (cond (PR.x (parP (bl (mk (Prod.fst (prR lnR (dEs (eEs (PR.l (parP (bl s1))))) []))))) == 0)
 (cond (isEs (eEs (PR.l (parP (bl (mk (Prod.fst (prR lnR (dEs (eEs (PR.l (parP (bl s1))))) []))))))) && (isEs (eEs (PR.l (parP (bl s1)))) && (sm (List.length (eEs (PR.l (parP (bl s1))))) && List.all (dEs (eEs (PR.l (parP (bl s1))))) smE)))
 (some [(.bool (decide (dEs (eEs (PR.l (parP (bl (mk (Prod.fst (prR lnR (dEs (eEs (PR.l (parP (bl s1))))) []))))))) = dEs (eEs (PR.l (parP (bl s1)))))))])
 none)
 (some [(.bool (false))])))
 none))
 none))
 none))
 none)))
 none) := by kernel_rfl

theorem lReplies_e (G : Req → R) (kind0 : Int) (r1_0 : Int) (r1_1 : Int) (r1_2_0 : List (List L)) (r1_2_1 : List (List L)) (r1_2_2 : Bool) (r1_3 : Int) : runB (cfg [k_alive, k_preply, k_rreply]) G (.enter 4 [(.lf (.int IntKind.i64 (kind0))), (.agg [(.int IntKind.i64 (r1_0)), (.int IntKind.i64 (r1_1)), (.lst 54 r1_2_0), (.lst 56 r1_2_1), (.bool (r1_2_2)), (.int IntKind.i64 (r1_3))])] []) =
 (cond (ltI 20 (↑(List.length r1_2_0) : Int))
 (some [(.bool (true))])
 (cond (ltI 10 (↑(List.length r1_2_1) : Int))
 (some [(.bool (true))])
 (both
 (cond (gRp r1_0 r1_1 r1_2_0 r1_2_1 r1_3)
 (cond (gRp r1_0 r1_1 r1_2_0 r1_2_1 r1_3)
 (some [(.bool (bl (mk (rpS kind0 r1_0 r1_1 r1_2_0 r1_2_1 r1_2_2 r1_3)) == bl (mk (rpS kind0 r1_0 r1_1 r1_2_0 r1_2_1 r1_2_2 r1_3))))])
 none)
 none)
 (dupN 1
 (dupN 1
 (cond (gRp r1_0 r1_1 r1_2_0 r1_2_1 r1_3)
 (cond (gRp r1_0 r1_1 r1_2_0 r1_2_1 r1_3)
 (some [(.bool (bl (mk (rpS kind0 r1_0 r1_1 r1_2_0 r1_2_1 r1_2_2 r1_3)) == bl (mk (rpS kind0 r1_0 r1_1 r1_2_0 r1_2_1 r1_2_2 r1_3))))])
 none)
 none)))))) := by kernel_rfl

end Go.Ab
namespace Go.Ab
open Go.Proofs
def evD : Ev := ev0 0
theorem sameList_loop (xs ys : List Ev) (hl : xs.length = ys.length) (hs : xs.length ≤ 1000000) (hsm : ∀ e ∈ ys, smE e = true) : ∀ m i : Nat, i + m = xs.length → Runs (cfg [k_rsame]) (sameList_q4 (eEs xs) (eEs ys) (i : Nat)) [.bool (decide (xs.drop i = ys.drop i))]
  | 0, i, h => by
    refine Runs.by (sameList_p4 · _ _ _) ?_
    rw [drop_end (l := xs) (by omega), drop_end (l := ys) (by omega), eEs_len]
    simp (disch := omega) only [ev_lt_f, cond_false]
    exact .ret' (by simp)
  | m + 1, i, h => by
    have ih := sameList_loop xs ys hl hs hsm m (i + 1) (by omega)
    refine Runs.by (sameList_p4 · _ _ _) ?_
    rw [drop_at evD (show i < xs.length by omega), drop_at evD (show i < ys.length by omega), cons_d]
    have ha : atL (eEs xs) (i : Int) = encE (xs.getD i evD) := atL_map _ xs i evD (by omega)
    have hb : atL (eEs ys) (i : Int) = encE (ys.getD i evD) := atL_map _ ys i evD (by omega)
    have hm : ys.getD i evD ∈ ys := by
      have : i < ys.length := by omega
      simp [List.getD, List.getElem?_eq_getElem this]
    have hg := hsm _ hm
    simp (disch := omega) only [ha, hb, eEs_len, ev_lt_t, ev_le_t, Bool.and_self, cond_true, w64]
    generalize xs.getD i evD = a at *
    generalize ys.getD i evD = b at *
    have g : (isLs (cX 10 (encE a)) (cX 11 (encE a)) (cX 12 (encE a)) (cX 13 (encE a)) && (isLs (cX 10 (encE b)) (cX 11 (encE b)) (cX 12 (encE b)) (cX 13 (encE b)) && smE (dE1 (encE b)))) = true := by
      rw [dE1_e, hg, Bool.and_true, Bool.and_eq_true]
      exact ⟨isLs_e a.users a.groups a.rules a.writes, isLs_e b.users b.groups b.rules b.writes⟩
    have e : decide (dE1 (encE a) = dE1 (encE b)) = decide (a = b) := by rw [dE1_e, dE1_e]
    show RunsF _ (fun G => cond (isLs (cX 10 (encE a)) (cX 11 (encE a)) (cX 12 (encE a)) (cX 13 (encE a)) && (isLs (cX 10 (encE b)) (cX 11 (encE b)) (cX 12 (encE b)) (cX 13 (encE b)) && smE (dE1 (encE b)))) (cond (!decide (dE1 (encE a) = dE1 (encE b))) _ _) none) _
    rw [g, e]
    by_cases he : a = b
    · rw [decide_eq_true he]
      exact .go ih
    · rw [decide_eq_false he]
      exact .ret
theorem sameList_holds : Holds k_SameList := con_run (xs := [k_rsame]) (hold1 rsame_holds hold0) fun aa hp r h => by
  split at h
  case h_2 => cases h
  rename_i xs ys
  obtain ⟨g, rfl⟩ := xo h
  simp only [Bool.and_eq_true] at g
  obtain ⟨g1, g2, g3, g4⟩ := g
  obtain ⟨xs, rfl⟩ := isEs_of g1
  obtain ⟨ys, rfl⟩ := isEs_of g2
  rw [eEs_len] at g3
  rw [dEs_e] at g4
  have g3 := sm_of g3
  refine Runs.by (sameList_e · _ _) ?_
  rw [dEs_e, dEs_e, eEs_len, eEs_len]
  by_cases hl : xs.length = ys.length
  · have := sameList_loop xs ys hl (by omega) (fun e he => List.all_eq_true.1 g4 e he) xs.length 0 (Nat.zero_add _)
    rw [List.drop_zero, List.drop_zero] at this
    rw [ev_ne_f (by omega)]
    exact .go this
  · rw [ev_ne_t (by omega), decide_eq_false (fun e => hl (by rw [e]))]
    exact .ret
end Go.Ab
namespace Go.Ab
open Go.Proofs
noncomputable def pprint_q3 (x9 : List (List L)) (x10 : Int) (x11 : Int) (h1 : List (List L)) : Req := .point 14 [] (todoAt Tryz.prog 14 3) ⟨[an, an, an, an, (.lf (.ptr 0 0)), an, an, an, an, (.lf (.lst 42 x9)), (.lf (.int IntKind.i64 x10)), (.lf (.int IntKind.i64 x11)), an, an, an, an, an, an, an, an, an, an, an, an, an, an, an, an], [(.box [.oth, (.sl 5)] [(.slf 0 0), (.row 1)]), (.row 5 h1 true)]⟩
theorem pprint_e (G : Req → R) (l0 : List (List L)) : runB (cfg [k_pline, k_ws, k_bs]) G (.enter 14 [(.lf (.lst 42 l0))] []) =
 (G (pprint_q3 l0 ((↑(List.length l0) : Int)) 0 [])) := by kernel_rfl
theorem pprint_p3 (G : Req → R) (x9 : List (List L)) (x10 : Int) (x11 : Int) (h1 : List (List L)) : runB (cfg [k_pline, k_ws, k_bs]) G (pprint_q3 x9 x10 x11 h1) =
 (cond (ltI x11 x10)
 (cond (leI 0 x11 && ltI x11 (↑(List.length x9) : Int))
 (cond (isLs (cX 10 (atL x9 x11)) (cX 11 (atL x9 x11)) (cX 12 (atL x9 x11)) (cX 13 (atL x9 x11)) && gLn (Ev.mk (cI 0 (atL x9 x11)) (bl (cT 1 (atL x9 x11))) (bl (cT 2 (atL x9 x11))) (bl (cT 3 (atL x9 x11))) (cI 4 (atL x9 x11)) (cI 5 (atL x9 x11)) (cI 6 (atL x9 x11)) (cI 7 (atL x9 x11)) (bl (cT 8 (atL x9 x11))) (bl (cT 9 (atL x9 x11))) (dIs (cX 10 (atL x9 x11))) (dSs (cX 11 (atL x9 x11))) (dRs (cX 12 (atL x9 x11))) (dWs (cX 13 (atL x9 x11)))))
 (cond (Prod.snd (lnR (Ev.mk (cI 0 (atL x9 x11)) (bl (cT 1 (atL x9 x11))) (bl (cT 2 (atL x9 x11))) (bl (cT 3 (atL x9 x11))) (cI 4 (atL x9 x11)) (cI 5 (atL x9 x11)) (cI 6 (atL x9 x11)) (cI 7 (atL x9 x11)) (bl (cT 8 (atL x9 x11))) (bl (cT 9 (atL x9 x11))) (dIs (cX 10 (atL x9 x11))) (dSs (cX 11 (atL x9 x11))) (dRs (cX 12 (atL x9 x11))) (dWs (cX 13 (atL x9 x11))))) != 0)
 (some [(.str (mk [])), (.int IntKind.i64 (Prod.snd (lnR (Ev.mk (cI 0 (atL x9 x11)) (bl (cT 1 (atL x9 x11))) (bl (cT 2 (atL x9 x11))) (bl (cT 3 (atL x9 x11))) (cI 4 (atL x9 x11)) (cI 5 (atL x9 x11)) (cI 6 (atL x9 x11)) (cI 7 (atL x9 x11)) (bl (cT 8 (atL x9 x11))) (bl (cT 9 (atL x9 x11))) (dIs (cX 10 (atL x9 x11))) (dSs (cX 11 (atL x9 x11))) (dRs (cX 12 (atL x9 x11))) (dWs (cX 13 (atL x9 x11)))))))])
 (cond (leI (↑(ByteArray.size (mk (Prod.fst (lnR (Ev.mk (cI 0 (atL x9 x11)) (bl (cT 1 (atL x9 x11))) (bl (cT 2 (atL x9 x11))) (bl (cT 3 (atL x9 x11))) (cI 4 (atL x9 x11)) (cI 5 (atL x9 x11)) (cI 6 (atL x9 x11)) (cI 7 (atL x9 x11)) (bl (cT 8 (atL x9 x11))) (bl (cT 9 (atL x9 x11))) (dIs (cX 10 (atL x9 x11))) (dSs (cX 11 (atL x9 x11))) (dRs (cX 12 (atL x9 x11))) (dWs (cX 13 (atL x9 x11))))))) + 1) : Int) (IntKind.max IntKind.i64))
 (cond (isBy h1 && Nat.ble (List.length h1 + ByteArray.size (mk (Prod.fst (lnR (Ev.mk (cI 0 (atL x9 x11)) (bl (cT 1 (atL x9 x11))) (bl (cT 2 (atL x9 x11))) (bl (cT 3 (atL x9 x11))) (cI 4 (atL x9 x11)) (cI 5 (atL x9 x11)) (cI 6 (atL x9 x11)) (cI 7 (atL x9 x11)) (bl (cT 8 (atL x9 x11))) (bl (cT 9 (atL x9 x11))) (dIs (cX 10 (atL x9 x11))) (dSs (cX 11 (atL x9 x11))) (dRs (cX 12 (atL x9 x11))) (dWs (cX 13 (atL x9 x11)))))) ++ mk [10])) 100000000000)
 (G (pprint_q3 x9 x10 (wrapI IntKind.i64 (x11 + 1)) (h1 ++ bytesOf (mk (Prod.fst (lnR (Ev.mk (cI 0 (atL x9 x11)) (bl (cT 1 (atL x9 x11))) (bl (cT 2 (atL x9 x11))) (bl (cT 3 (atL x9 x11))) (cI 4 (atL x9 x11)) (cI 5 (atL x9 x11)) (cI 6 (atL x9 x11)) (cI 7 (atL x9 x11)) (bl (cT 8 (atL x9 x11))) (bl (cT 9 (atL x9 x11))) (dIs (cX 10 (atL x9 x11))) (dSs (cX 11 (atL x9 x11))) (dRs (cX 12 (atL x9 x11))) (dWs (cX 13 (atL x9 x11)))))) ++ mk [10]))))
 none)
 none))
 none)
 none)
 (cond (isBy h1 && Nat.ble (List.length h1) 100000000000)
 (some [(.str (mk (dB h1))), (.int IntKind.i64 (0))])
 none)) := by kernel_rfl

noncomputable def rprint_q3 (l0 : List (List L)) (out4 : ByteArray) (i5 : Int) : Req := .point 15 [] (todoAt Tryz.prog 15 3) ⟨[(.lf (.lst 42 l0)), an, an, an, (.lf (.str out4)), (.lf (.int IntKind.i64 i5)), an, an, an, an, an, an, an, an, an, an, an, an, an, an, an, an, an, an, an, an, an, an, an, an], []⟩
theorem rprint_e (G : Req → R) (l0 : List (List L)) : runB (cfg [k_rline]) G (.enter 15 [(.lf (.lst 42 l0))] []) =
 (G (rprint_q3 l0 (mk []) 0)) := by kernel_rfl
theorem rprint_p3 (G : Req → R) (l0 : List (List L)) (out4 : ByteArray) (i5 : Int) : runB (cfg [k_rline]) G (rprint_q3 l0 out4 i5) =
 (cond (ltI i5 (↑(List.length l0) : Int))
 (cond (leI 0 i5 && ltI i5 (↑(List.length l0) : Int))
 (cond (isLs (cX 10 (atL l0 i5)) (cX 11 (atL l0 i5)) (cX 12 (atL l0 i5)) (cX 13 (atL l0 i5)) && gRl (Ev.mk (cI 0 (atL l0 i5)) (bl (cT 1 (atL l0 i5))) (bl (cT 2 (atL l0 i5))) (bl (cT 3 (atL l0 i5))) (cI 4 (atL l0 i5)) (cI 5 (atL l0 i5)) (cI 6 (atL l0 i5)) (cI 7 (atL l0 i5)) (bl (cT 8 (atL l0 i5))) (bl (cT 9 (atL l0 i5))) (dIs (cX 10 (atL l0 i5))) (dSs (cX 11 (atL l0 i5))) (dRs (cX 12 (atL l0 i5))) (dWs (cX 13 (atL l0 i5)))))
 (cond (Prod.snd (rlnR (Ev.mk (cI 0 (atL l0 i5)) (bl (cT 1 (atL l0 i5))) (bl (cT 2 (atL l0 i5))) (bl (cT 3 (atL l0 i5))) (cI 4 (atL l0 i5)) (cI 5 (atL l0 i5)) (cI 6 (atL l0 i5)) (cI 7 (atL l0 i5)) (bl (cT 8 (atL l0 i5))) (bl (cT 9 (atL l0 i5))) (dIs (cX 10 (atL l0 i5))) (dSs (cX 11 (atL l0 i5))) (dRs (cX 12 (atL l0 i5))) (dWs (cX 13 (atL l0 i5))))) != 0)
 (some [(.str (mk [])), (.int IntKind.i64 (Prod.snd (rlnR (Ev.mk (cI 0 (atL l0 i5)) (bl (cT 1 (atL l0 i5))) (bl (cT 2 (atL l0 i5))) (bl (cT 3 (atL l0 i5))) (cI 4 (atL l0 i5)) (cI 5 (atL l0 i5)) (cI 6 (atL l0 i5)) (cI 7 (atL l0 i5)) (bl (cT 8 (atL l0 i5))) (bl (cT 9 (atL l0 i5))) (dIs (cX 10 (atL l0 i5))) (dSs (cX 11 (atL l0 i5))) (dRs (cX 12 (atL l0 i5))) (dWs (cX 13 (atL l0 i5)))))))])
 (cond (leI (↑(ByteArray.size (mk (Prod.fst (rlnR (Ev.mk (cI 0 (atL l0 i5)) (bl (cT 1 (atL l0 i5))) (bl (cT 2 (atL l0 i5))) (bl (cT 3 (atL l0 i5))) (cI 4 (atL l0 i5)) (cI 5 (atL l0 i5)) (cI 6 (atL l0 i5)) (cI 7 (atL l0 i5)) (bl (cT 8 (atL l0 i5))) (bl (cT 9 (atL l0 i5))) (dIs (cX 10 (atL l0 i5))) (dSs (cX 11 (atL l0 i5))) (dRs (cX 12 (atL l0 i5))) (dWs (cX 13 (atL l0 i5))))))) + 1) : Int) (IntKind.max IntKind.i64))
 (cond (leI (↑(ByteArray.size out4 + ByteArray.size (mk (Prod.fst (rlnR (Ev.mk (cI 0 (atL l0 i5)) (bl (cT 1 (atL l0 i5))) (bl (cT 2 (atL l0 i5))) (bl (cT 3 (atL l0 i5))) (cI 4 (atL l0 i5)) (cI 5 (atL l0 i5)) (cI 6 (atL l0 i5)) (cI 7 (atL l0 i5)) (bl (cT 8 (atL l0 i5))) (bl (cT 9 (atL l0 i5))) (dIs (cX 10 (atL l0 i5))) (dSs (cX 11 (atL l0 i5))) (dRs (cX 12 (atL l0 i5))) (dWs (cX 13 (atL l0 i5)))))) ++ mk [10])) : Int) (IntKind.max IntKind.i64))
 (G (rprint_q3 l0 (out4 ++ (mk (Prod.fst (rlnR (Ev.mk (cI 0 (atL l0 i5)) (bl (cT 1 (atL l0 i5))) (bl (cT 2 (atL l0 i5))) (bl (cT 3 (atL l0 i5))) (cI 4 (atL l0 i5)) (cI 5 (atL l0 i5)) (cI 6 (atL l0 i5)) (cI 7 (atL l0 i5)) (bl (cT 8 (atL l0 i5))) (bl (cT 9 (atL l0 i5))) (dIs (cX 10 (atL l0 i5))) (dSs (cX 11 (atL l0 i5))) (dRs (cX 12 (atL l0 i5))) (dWs (cX 13 (atL l0 i5)))))) ++ mk [10])) (wrapI IntKind.i64 (i5 + 1))))
 none)
 none))
 none)
 none)
 (some [(.str (out4)), (.int IntKind.i64 (0))])) := by kernel_rfl

noncomputable def pparse_q5 (x14 : List (List L)) (x15 : Int) (x16 : Int) (h0 : List (List L)) : Req := .point 8 [] (todoAt Tryz.prog 8 5) ⟨[an, an, an, an, an, (.lf (.row 0)), an, an, an, an, an, an, an, an, (.lf (.lst 9 x14)), (.lf (.int IntKind.i64 x15)), (.lf (.int IntKind.i64 x16)), an, an, an, an, an, an, an, an, an, an, an, an, an, an, an, an, an, an, an, an, an, an, an, an, an, an, an, an, an, an, an, an, an, an], [(.row 42 h0 true)]⟩
theorem pparse_e (G : Req → R) (s0 : ByteArray) : runB (cfg [k_Split, k_pevent]) G (.enter 8 [(.lf (.str (s0)))] []) =
 (cond (ltI 8000 (↑(ByteArray.size s0) : Int))
 (some [(.lst 42 []), (.int IntKind.i64 (0)), (.int IntKind.i64 (4))])
 (cond (Nat.ble (ByteArray.size s0) 1000000000 && true)
 (G (pparse_q5 (eSs (spl (List.getD (bl (mk [10])) 0 0) (bl s0))) ((↑(List.length (eSs (spl (List.getD (bl (mk [10])) 0 0) (bl s0)))) : Int)) 0 []))
 none)) := by kernel_rfl
theorem pparse_p5 (G : Req → R) (x14 : List (List L)) (x15 : Int) (x16 : Int) (h0 : List (List L)) : runB (cfg [k_Split, k_pevent]) G (pparse_q5 x14 x15 x16 h0) =
 (cond (ltI x16 x15)
 (cond (leI 0 x16 && ltI x16 (↑(List.length x14) : Int))
 (cond (bl (cT 0 (atL x14 x16)) == bl (mk []))
 (G (pparse_q5 x14 x15 (wrapI IntKind.i64 (x16 + 1)) h0))
 (cond (ltI 0 (↑(ByteArray.size (cT 0 (atL x14 x16))) : Int))
 (cond (byI (cT 0 (atL x14 x16)) 0 == 35)
 (G (pparse_q5 x14 x15 (wrapI IntKind.i64 (x16 + 1)) h0))
 (cond (sm (ByteArray.size (cT 0 (atL x14 x16))))
 (cond (Prod.snd (evL pOps (bl (cT 0 (atL x14 x16)))) == 0)
 (cond (leI 400 (↑(List.length h0) : Int))
 (some [(.lst 42 []), (.int IntKind.i64 (wrapI IntKind.i64 (x16 + 1))), (.int IntKind.i64 (4))])
 (cond (Prod.snd (evL pOps (bl (cT 0 (atL x14 x16)))) != 0)
 (some [(.lst 42 []), (.int IntKind.i64 (wrapI IntKind.i64 (x16 + 1))), (.int IntKind.i64 (Prod.snd (evL pOps (bl (cT 0 (atL x14 x16))))))])
 (cond (roomN (List.length h0 + 1) 216)
 (G (pparse_q5 x14 x15 (wrapI IntKind.i64 (x16 + 1)) (h0 ++ [[L.int IntKind.i64 (Ev.kind (Prod.fst (evL pOps (bl (cT 0 (atL x14 x16)))))), L.str (mk (Ev.repo (Prod.fst (evL pOps (bl (cT 0 (atL x14 x16))))))), L.str (mk (Ev.name (Prod.fst (evL pOps (bl (cT 0 (atL x14 x16))))))), L.str (mk (Ev.other (Prod.fst (evL pOps (bl (cT 0 (atL x14 x16))))))), L.int IntKind.i64 (Ev.who (Prod.fst (evL pOps (bl (cT 0 (atL x14 x16)))))), L.int IntKind.i64 (Ev.n (Prod.fst (evL pOps (bl (cT 0 (atL x14 x16)))))), L.int IntKind.i64 (Ev.m (Prod.fst (evL pOps (bl (cT 0 (atL x14 x16)))))), L.int IntKind.i64 (Ev.k (Prod.fst (evL pOps (bl (cT 0 (atL x14 x16)))))), L.str (mk (Ev.text (Prod.fst (evL pOps (bl (cT 0 (atL x14 x16))))))), L.str (mk (Ev.gname (Prod.fst (evL pOps (bl (cT 0 (atL x14 x16))))))), L.lst 3 (eIs (Ev.users (Prod.fst (evL pOps (bl (cT 0 (atL x14 x16))))))), L.lst 9 (eSs (Ev.groups (Prod.fst (evL pOps (bl (cT 0 (atL x14 x16))))))), L.lst 65 (eRs (Ev.rules (Prod.fst (evL pOps (bl (cT 0 (atL x14 x16))))))), L.lst 51 (eWs (Ev.writes (Prod.fst (evL pOps (bl (cT 0 (atL x14 x16)))))))]])))
 none)))
 (cond (Prod.snd (evL pOps (bl (cT 0 (atL x14 x16)))) != 0)
 (some [(.lst 42 []), (.int IntKind.i64 (wrapI IntKind.i64 (x16 + 1))), (.int IntKind.i64 (Prod.snd (evL pOps (bl (cT 0 (atL x14 x16))))))])
 (cond (roomN (List.length h0 + 1) 216)
 (G (pparse_q5 x14 x15 (wrapI IntKind.i64 (x16 + 1)) (h0 ++ [[L.int IntKind.i64 (Ev.kind (Prod.fst (evL pOps (bl (cT 0 (atL x14 x16)))))), L.str (mk (Ev.repo (Prod.fst (evL pOps (bl (cT 0 (atL x14 x16))))))), L.str (mk (Ev.name (Prod.fst (evL pOps (bl (cT 0 (atL x14 x16))))))), L.str (mk (Ev.other (Prod.fst (evL pOps (bl (cT 0 (atL x14 x16))))))), L.int IntKind.i64 (Ev.who (Prod.fst (evL pOps (bl (cT 0 (atL x14 x16)))))), L.int IntKind.i64 (Ev.n (Prod.fst (evL pOps (bl (cT 0 (atL x14 x16)))))), L.int IntKind.i64 (Ev.m (Prod.fst (evL pOps (bl (cT 0 (atL x14 x16)))))), L.int IntKind.i64 (Ev.k (Prod.fst (evL pOps (bl (cT 0 (atL x14 x16)))))), L.str (mk (Ev.text (Prod.fst (evL pOps (bl (cT 0 (atL x14 x16))))))), L.str (mk (Ev.gname (Prod.fst (evL pOps (bl (cT 0 (atL x14 x16))))))), L.lst 3 (eIs (Ev.users (Prod.fst (evL pOps (bl (cT 0 (atL x14 x16))))))), L.lst 9 (eSs (Ev.groups (Prod.fst (evL pOps (bl (cT 0 (atL x14 x16))))))), L.lst 65 (eRs (Ev.rules (Prod.fst (evL pOps (bl (cT 0 (atL x14 x16))))))), L.lst 51 (eWs (Ev.writes (Prod.fst (evL pOps (bl (cT 0 (atL x14 x16)))))))]])))
 none)))
 none))
 none))
 none)
 (some [(.lst 42 h0), (.int IntKind.i64 (0)), (.int IntKind.i64 (0))])) := by kernel_rfl

noncomputable def rparse_q6 (l5 : List (List L)) (i7 : Int) (h0 : List (List L)) : Req := .point 9 [] (todoAt Tryz.prog 9 6) ⟨[an, an, an, an, an, (.lf (.lst 9 l5)), (.lf (.row 0)), (.lf (.int IntKind.i64 i7)), an, an, an, an, an, an, an, an, an, an, an, an, an, an, an, an, an, an, an, an, an, an, an, an, an, an, an, an, an, an, an, an, an, an, an, an, an, an, an, an, an, an, an, an, an, an, an, an, an, an, an], [(.row 42 h0 true)]⟩
theorem rparse_e (G : Req → R) (s0 : ByteArray) : runB (cfg [k_rlines, k_read]) G (.enter 9 [(.lf (.str (s0)))] []) =
 (cond (ltI 8000 (↑(ByteArray.size s0) : Int))
 (some [(.lst 42 []), (.int IntKind.i64 (0)), (.int IntKind.i64 (4))])
 (cond (sm (List.length (bl s0)))
 (G (rparse_q6 (eSs (rlines (bl s0))) 0 []))
 none)) := by kernel_rfl
theorem rparse_p6 (G : Req → R) (l5 : List (List L)) (i7 : Int) (h0 : List (List L)) : runB (cfg [k_rlines, k_read]) G (rparse_q6 l5 i7 h0) =
 (cond (ltI i7 (↑(List.length l5) : Int))
 (cond (leI 0 i7 && ltI i7 (↑(List.length l5) : Int))
 (cond (bl (cT 0 (atL l5 i7)) == bl (mk []))
 (G (rparse_q6 l5 (wrapI IntKind.i64 (i7 + 1)) h0))
 (cond (leI 0 i7 && ltI i7 (↑(List.length l5) : Int))
 (cond (ltI 0 (↑(ByteArray.size (cT 0 (atL l5 i7))) : Int))
 (cond (byI (cT 0 (atL l5 i7)) 0 == 35)
 (G (rparse_q6 l5 (wrapI IntKind.i64 (i7 + 1)) h0))
 (cond (leI 0 i7 && ltI i7 (↑(List.length l5) : Int))
 (cond (sm (ByteArray.size (cT 0 (atL l5 i7))))
 (cond (Prod.snd (evL aOps (bl (cT 0 (atL l5 i7)))) == 0)
 (cond (leI 400 (↑(List.length h0) : Int))
 (some [(.lst 42 []), (.int IntKind.i64 (wrapI IntKind.i64 (i7 + 1))), (.int IntKind.i64 (4))])
 (cond (Prod.snd (evL aOps (bl (cT 0 (atL l5 i7)))) != 0)
 (some [(.lst 42 []), (.int IntKind.i64 (wrapI IntKind.i64 (i7 + 1))), (.int IntKind.i64 (Prod.snd (evL aOps (bl (cT 0 (atL l5 i7))))))])
 (cond (roomN (List.length h0 + 1) 216)
 (G (rparse_q6 l5 (wrapI IntKind.i64 (i7 + 1)) (h0 ++ [[L.int IntKind.i64 (Ev.kind (Prod.fst (evL aOps (bl (cT 0 (atL l5 i7)))))), L.str (mk (Ev.repo (Prod.fst (evL aOps (bl (cT 0 (atL l5 i7))))))), L.str (mk (Ev.name (Prod.fst (evL aOps (bl (cT 0 (atL l5 i7))))))), L.str (mk (Ev.other (Prod.fst (evL aOps (bl (cT 0 (atL l5 i7))))))), L.int IntKind.i64 (Ev.who (Prod.fst (evL aOps (bl (cT 0 (atL l5 i7)))))), L.int IntKind.i64 (Ev.n (Prod.fst (evL aOps (bl (cT 0 (atL l5 i7)))))), L.int IntKind.i64 (Ev.m (Prod.fst (evL aOps (bl (cT 0 (atL l5 i7)))))), L.int IntKind.i64 (Ev.k (Prod.fst (evL aOps (bl (cT 0 (atL l5 i7)))))), L.str (mk (Ev.text (Prod.fst (evL aOps (bl (cT 0 (atL l5 i7))))))), L.str (mk (Ev.gname (Prod.fst (evL aOps (bl (cT 0 (atL l5 i7))))))), L.lst 3 (eIs (Ev.users (Prod.fst (evL aOps (bl (cT 0 (atL l5 i7))))))), L.lst 9 (eSs (Ev.groups (Prod.fst (evL aOps (bl (cT 0 (atL l5 i7))))))), L.lst 65 (eRs (Ev.rules (Prod.fst (evL aOps (bl (cT 0 (atL l5 i7))))))), L.lst 51 (eWs (Ev.writes (Prod.fst (evL aOps (bl (cT 0 (atL l5 i7)))))))]])))
 none)))
 (cond (Prod.snd (evL aOps (bl (cT 0 (atL l5 i7)))) != 0)
 (some [(.lst 42 []), (.int IntKind.i64 (wrapI IntKind.i64 (i7 + 1))), (.int IntKind.i64 (Prod.snd (evL aOps (bl (cT 0 (atL l5 i7))))))])
 (cond (roomN (List.length h0 + 1) 216)
 (G (rparse_q6 l5 (wrapI IntKind.i64 (i7 + 1)) (h0 ++ [[L.int IntKind.i64 (Ev.kind (Prod.fst (evL aOps (bl (cT 0 (atL l5 i7)))))), L.str (mk (Ev.repo (Prod.fst (evL aOps (bl (cT 0 (atL l5 i7))))))), L.str (mk (Ev.name (Prod.fst (evL aOps (bl (cT 0 (atL l5 i7))))))), L.str (mk (Ev.other (Prod.fst (evL aOps (bl (cT 0 (atL l5 i7))))))), L.int IntKind.i64 (Ev.who (Prod.fst (evL aOps (bl (cT 0 (atL l5 i7)))))), L.int IntKind.i64 (Ev.n (Prod.fst (evL aOps (bl (cT 0 (atL l5 i7)))))), L.int IntKind.i64 (Ev.m (Prod.fst (evL aOps (bl (cT 0 (atL l5 i7)))))), L.int IntKind.i64 (Ev.k (Prod.fst (evL aOps (bl (cT 0 (atL l5 i7)))))), L.str (mk (Ev.text (Prod.fst (evL aOps (bl (cT 0 (atL l5 i7))))))), L.str (mk (Ev.gname (Prod.fst (evL aOps (bl (cT 0 (atL l5 i7))))))), L.lst 3 (eIs (Ev.users (Prod.fst (evL aOps (bl (cT 0 (atL l5 i7))))))), L.lst 9 (eSs (Ev.groups (Prod.fst (evL aOps (bl (cT 0 (atL l5 i7))))))), L.lst 65 (eRs (Ev.rules (Prod.fst (evL aOps (bl (cT 0 (atL l5 i7))))))), L.lst 51 (eWs (Ev.writes (Prod.fst (evL aOps (bl (cT 0 (atL l5 i7)))))))]])))
 none)))
 none)
 none))
 none)
 none))
 none)
 (some [(.lst 42 h0), (.int IntKind.i64 (0)), (.int IntKind.i64 (0))])) := by kernel_rfl

noncomputable def starts_q3 (s0 : ByteArray) (i4 : Int) (h0 : List (List L)) : Req := .point 43 [] (todoAt Tryz.prog 43 3) ⟨[(.lf (.str s0)), an, an, (.lf (.row 0)), (.lf (.int IntKind.i64 i4)), an, an, an, an, an, an, an, an, an, an, an, an, an, an, an, an, an, an, an, an], [(.row 3 h0 true)]⟩
theorem starts_e (G : Req → R) (s0 : ByteArray) : runB (cfg []) G (.enter 43 [(.lf (.str (s0)))] []) =
 (G (starts_q3 s0 0 [])) := by kernel_rfl
theorem starts_p3 (G : Req → R) (s0 : ByteArray) (i4 : Int) (h0 : List (List L)) : runB (cfg []) G (starts_q3 s0 i4 h0) =
 (cond (ltI i4 (↑(ByteArray.size s0) : Int))
 (cond (i4 == 0)
 (cond (roomN (List.length h0 + 1) 8)
 (G (starts_q3 s0 (wrapI IntKind.i64 (i4 + 1)) (h0 ++ [[L.int IntKind.i64 i4]])))
 none)
 (cond (leI 0 (wrapI IntKind.i64 (i4 - 1)) && ltI (wrapI IntKind.i64 (i4 - 1)) (↑(ByteArray.size s0) : Int))
 (cond (byI s0 (wrapI IntKind.i64 (i4 - 1)) == 10)
 (cond (roomN (List.length h0 + 1) 8)
 (G (starts_q3 s0 (wrapI IntKind.i64 (i4 + 1)) (h0 ++ [[L.int IntKind.i64 i4]])))
 none)
 (G (starts_q3 s0 (wrapI IntKind.i64 (i4 + 1)) h0)))
 none))
 (some [(.lst 3 h0)])) := by kernel_rfl

noncomputable def stop_q2 (s0 : ByteArray) (i5 : Int) : Req := .point 44 [] (todoAt Tryz.prog 44 2) ⟨[(.lf (.str s0)), an, an, an, an, (.lf (.int IntKind.i64 i5)), an, an, an, an, an, an, an, an, an, an, an, an, an, an, an], []⟩
theorem stop_e (G : Req → R) (s0 : ByteArray) (from1 : Int) : runB (cfg []) G (.enter 44 [(.lf (.str (s0))), (.lf (.int IntKind.i64 (from1)))] []) =
 (G (stop_q2 s0 from1)) := by kernel_rfl
theorem stop_p2 (G : Req → R) (s0 : ByteArray) (i5 : Int) : runB (cfg []) G (stop_q2 s0 i5) =
 (cond (ltI i5 (↑(ByteArray.size s0) : Int))
 (cond (leI 0 i5 && ltI i5 (↑(ByteArray.size s0) : Int))
 (cond (byI s0 i5 == 10)
 (some [(.int IntKind.i64 (wrapI IntKind.i64 (i5 + 1)))])
 (G (stop_q2 s0 (wrapI IntKind.i64 (i5 + 1)))))
 none)
 (some [(.int IntKind.i64 ((↑(ByteArray.size s0) : Int)))])) := by kernel_rfl

noncomputable def rlines_q4 (s0 : ByteArray) (at4 : List (List L)) (i5 : Int) (h0 : List (List L)) : Req := .point 20 [] (todoAt Tryz.prog 20 4) ⟨[(.lf (.str s0)), an, an, (.lf (.row 0)), (.lf (.lst 3 at4)), (.lf (.int IntKind.i64 i5)), an, an, an, an, an, an, an, an, an, an, an, an, an, an, an, an, an, an, an, an, an, an, an, an, an, an, an, an, an, an, an, an, an], [(.row 9 h0 true)]⟩
theorem rlines_e (G : Req → R) (s0 : ByteArray) : runB (cfg [k_starts, k_stop]) G (.enter 20 [(.lf (.str (s0)))] []) =
 (cond (sm (List.length (bl s0)))
 (G (rlines_q4 s0 (eNs (stF 0 (bl s0) true)) 0 []))
 none) := by kernel_rfl
theorem rlines_p4 (G : Req → R) (s0 : ByteArray) (at4 : List (List L)) (i5 : Int) (h0 : List (List L)) : runB (cfg [k_starts, k_stop]) G (rlines_q4 s0 at4 i5 h0) =
 (cond (ltI i5 (↑(List.length at4) : Int))
 (cond (leI 0 i5 && ltI i5 (↑(List.length at4) : Int))
 (cond (sm (ByteArray.size s0) && (leI 0 (cI 0 (atL at4 i5)) && leI (cI 0 (atL at4 i5)) (↑(ByteArray.size s0) : Int)))
 (cond (leI 0 (wrapI IntKind.i64 ((↑(stopF (bl s0) (Int.toNat (cI 0 (atL at4 i5)))) : Int) - 1)) && ltI (wrapI IntKind.i64 ((↑(stopF (bl s0) (Int.toNat (cI 0 (atL at4 i5)))) : Int) - 1)) (↑(ByteArray.size s0) : Int))
 (cond (byI s0 (wrapI IntKind.i64 ((↑(stopF (bl s0) (Int.toNat (cI 0 (atL at4 i5)))) : Int) - 1)) == 10)
 (cond (leI 0 i5 && ltI i5 (↑(List.length at4) : Int))
 (cond (leI 0 (wrapI IntKind.i64 ((↑(stopF (bl s0) (Int.toNat (cI 0 (atL at4 i5)))) : Int) - 1)) && leI (wrapI IntKind.i64 ((↑(stopF (bl s0) (Int.toNat (cI 0 (atL at4 i5)))) : Int) - 1)) (↑(ByteArray.size s0) : Int) && (leI 0 (cI 0 (atL at4 i5)) && leI (cI 0 (atL at4 i5)) (↑(Int.toNat (wrapI IntKind.i64 ((↑(stopF (bl s0) (Int.toNat (cI 0 (atL at4 i5)))) : Int) - 1))) : Int)))
 (cond (roomN (List.length h0 + 1) 16)
 (G (rlines_q4 s0 at4 (wrapI IntKind.i64 (i5 + 1)) (h0 ++ [[L.str (ByteArray.extract s0 (Int.toNat (cI 0 (atL at4 i5))) (Int.toNat (wrapI IntKind.i64 ((↑(stopF (bl s0) (Int.toNat (cI 0 (atL at4 i5)))) : Int) - 1))))]])))
 none)
 none)
 none)
 (cond (leI 0 i5 && ltI i5 (↑(List.length at4) : Int))
 (cond (leI 0 (↑(stopF (bl s0) (Int.toNat (cI 0 (atL at4 i5)))) : Int) && leI (↑(stopF (bl s0) (Int.toNat (cI 0 (atL at4 i5)))) : Int) (↑(ByteArray.size s0) : Int) && (leI 0 (cI 0 (atL at4 i5)) && leI (cI 0 (atL at4 i5)) (↑(Int.toNat (↑(stopF (bl s0) (Int.toNat (cI 0 (atL at4 i5)))) : Int)) : Int)))
 (cond (roomN (List.length h0 + 1) 16)
 (G (rlines_q4 s0 at4 (wrapI IntKind.i64 (i5 + 1)) (h0 ++ [[L.str (ByteArray.extract s0 (Int.toNat (cI 0 (atL at4 i5))) (Int.toNat (↑(stopF (bl s0) (Int.toNat (cI 0 (atL at4 i5)))) : Int)))]])))
 none)
 none)
 none))
 none)
 none)
 none)
 (some [(.lst 9 h0)])) := by kernel_rfl

theorem rline_e (G : Req → R) (e0_0 : Int) (e0_1 : ByteArray) (e0_2 : ByteArray) (e0_3 : ByteArray) (e0_4 : Int) (e0_5 : Int) (e0_6 : Int) (e0_7 : Int) (e0_8 : ByteArray) (e0_9_0 : ByteArray) (e0_9_1 : List (List L)) (e0_9_2 : List (List L)) (e0_10 : List (List L)) (e0_11 : List (List L)) : runB (cfg [k_name, k_tail, k_read, k_rsame]) G (.enter 17 [(.agg [(.int IntKind.i64 (e0_0)), (.str (e0_1)), (.str (e0_2)), (.str (e0_3)), (.int IntKind.i64 (e0_4)), (.int IntKind.i64 (e0_5)), (.int IntKind.i64 (e0_6)), (.int IntKind.i64 (e0_7)), (.str (e0_8)), (.str (e0_9_0)), (.lst 3 e0_9_1), (.lst 9 e0_9_2), (.lst 65 e0_10), (.lst 51 e0_11)])] []) =
 (cond (i64B e0_0)
 (cond (bl (mk (nmOf e0_0)) == bl (mk []))
 (some [(.str (mk [])), (.int IntKind.i64 (1))])
 (dupN 1
 (cond (i64B e0_0)
 (cond (isLs e0_9_1 e0_9_2 e0_10 e0_11 && (i64B (Ev.kind (Ev.mk e0_0 (bl e0_1) (bl e0_2) (bl e0_3) e0_4 e0_5 e0_6 e0_7 (bl e0_8) (bl e0_9_0) (dIs e0_9_1) (dSs e0_9_2) (dRs e0_10) (dWs e0_11))) && okI (Ev.mk e0_0 (bl e0_1) (bl e0_2) (bl e0_3) e0_4 e0_5 e0_6 e0_7 (bl e0_8) (bl e0_9_0) (dIs e0_9_1) (dSs e0_9_2) (dRs e0_10) (dWs e0_11)) && sm (List.length (tw (tlw (Ev.mk e0_0 (bl e0_1) (bl e0_2) (bl e0_3) e0_4 e0_5 e0_6 e0_7 (bl e0_8) (bl e0_9_0) (dIs e0_9_1) (dSs e0_9_2) (dRs e0_10) (dWs e0_11)))))))
 (cond (leI (↑(ByteArray.size (mk (nmOf e0_0)) + ByteArray.size (mk (tw (tlw (Ev.mk e0_0 (bl e0_1) (bl e0_2) (bl e0_3) e0_4 e0_5 e0_6 e0_7 (bl e0_8) (bl e0_9_0) (dIs e0_9_1) (dSs e0_9_2) (dRs e0_10) (dWs e0_11)))))) : Int) (IntKind.max IntKind.i64))
 (cond (sm (ByteArray.size (mk (nmOf e0_0) ++ mk (tw (tlw (Ev.mk e0_0 (bl e0_1) (bl e0_2) (bl e0_3) e0_4 e0_5 e0_6 e0_7 (bl e0_8) (bl e0_9_0) (dIs e0_9_1) (dSs e0_9_2) (dRs e0_10) (dWs e0_11)))))))
 (cond (Prod.snd (evL aOps (bl (mk (nmOf e0_0) ++ mk (tw (tlw (Ev.mk e0_0 (bl e0_1) (bl e0_2) (bl e0_3) e0_4 e0_5 e0_6 e0_7 (bl e0_8) (bl e0_9_0) (dIs e0_9_1) (dSs e0_9_2) (dRs e0_10) (dWs e0_11))))))) != 0)
 (some [(.str (mk [])), (.int IntKind.i64 (1))])
 (cond (isLs e0_9_1 e0_9_2 e0_10 e0_11 && (isLs (eIs (Ev.users (Prod.fst (evL aOps (bl (mk (nmOf e0_0) ++ mk (tw (tlw (Ev.mk e0_0 (bl e0_1) (bl e0_2) (bl e0_3) e0_4 e0_5 e0_6 e0_7 (bl e0_8) (bl e0_9_0) (dIs e0_9_1) (dSs e0_9_2) (dRs e0_10) (dWs e0_11)))))))))) (eSs (Ev.groups (Prod.fst (evL aOps (bl (mk (nmOf e0_0) ++ mk (tw (tlw (Ev.mk e0_0 (bl e0_1) (bl e0_2) (bl e0_3) e0_4 e0_5 e0_6 e0_7 (bl e0_8) (bl e0_9_0) (dIs e0_9_1) (dSs e0_9_2) (dRs e0_10) (dWs e0_11)))))))))) (eRs (Ev.rules (Prod.fst (evL aOps (bl (mk (nmOf e0_0) ++ mk (tw (tlw (Ev.mk e0_0 (bl e0_1) (bl e0_2) (bl e0_3) e0_4 e0_5 e0_6 e0_7 (bl e0_8) (bl e0_9_0) (dIs e0_9_1) (dSs e0_9_2) (dRs e0_10) (dWs e0_11)))))))))) (eWs (Ev.writes (Prod.fst (evL aOps (bl (mk (nmOf e0_0) ++ mk (tw (tlw (Ev.mk e0_0 (bl e0_1) (bl e0_2) (bl e0_3) e0_4 e0_5 e0_6 e0_7 (bl e0_8) (bl e0_9_0) (dIs e0_9_1) (dSs e0_9_2) (dRs e0_10) (dWs e0_11)))))))))) && smE (Ev.mk (Ev.kind (Prod.fst (evL aOps (bl (mk (nmOf e0_0) ++ mk (tw (tlw (Ev.mk e0_0 (bl e0_1) (bl e0_2) (bl e0_3) e0_4 e0_5 e0_6 e0_7 (bl e0_8) (bl e0_9_0) (dIs e0_9_1) (dSs e0_9_2) (dRs e0_10) (dWs e0_11))))))))) (bl (mk (Ev.repo (Prod.fst (evL aOps (bl (mk (nmOf e0_0) ++ mk (tw (tlw (Ev.mk e0_0 (bl e0_1) (bl e0_2) (bl e0_3) e0_4 e0_5 e0_6 e0_7 (bl e0_8) (bl e0_9_0) (dIs e0_9_1) (dSs e0_9_2) (dRs e0_10) (dWs e0_11))))))))))) (bl (mk (Ev.name (Prod.fst (evL aOps (bl (mk (nmOf e0_0) ++ mk (tw (tlw (Ev.mk e0_0 (bl e0_1) (bl e0_2) (bl e0_3) e0_4 e0_5 e0_6 e0_7 (bl e0_8) (bl e0_9_0) (dIs e0_9_1) (dSs e0_9_2) (dRs e0_10) (dWs e0_11))))))))))) (bl (mk (Ev.other (Prod.fst (evL aOps (bl (mk (nmOf e0_0) ++ mk (tw (tlw (Ev.mk e0_0 (bl e0_1) (bl e0_2) (bl e0_3) e0_4 e0_5 e0_6 e0_7 (bl e0_8) (bl e0_9_0) (dIs e0_9_1) (dSs e0_9_2) (dRs e0_10) (dWs e0_11))))))))))) (Ev.who (Prod.fst (evL aOps (bl (mk (nmOf e0_0) ++ mk (tw (tlw (Ev.mk e0_0 (bl e0_1) (bl e0_2) (bl e0_3) e0_4 e0_5 e0_6 e0_7 (bl e0_8) (bl e0_9_0) (dIs e0_9_1) (dSs e0_9_2) (dRs e0_10) (dWs e0_11))))))))) (Ev.n (Prod.fst (evL aOps (bl (mk (nmOf e0_0) ++ mk (tw (tlw (Ev.mk e0_0 (bl e0_1) (bl e0_2) (bl e0_3) e0_4 e0_5 e0_6 e0_7 (bl e0_8) (bl e0_9_0) (dIs e0_9_1) (dSs e0_9_2) (dRs e0_10) (dWs e0_11))))))))) (Ev.m (Prod.fst (evL aOps (bl (mk (nmOf e0_0) ++ mk (tw (tlw (Ev.mk e0_0 (bl e0_1) (bl e0_2) (bl e0_3) e0_4 e0_5 e0_6 e0_7 (bl e0_8) (bl e0_9_0) (dIs e0_9_1) (dSs e0_9_2) (dRs e0_10) (dWs e0_11))))))))) (Ev.k (Prod.fst (evL aOps (bl (mk (nmOf e0_0) ++ mk (tw (tlw (Ev.mk e0_0 (bl e0_1) (bl e0_2) (bl e0_3) e0_4 e0_5 e0_6 e0_7 (bl e0_8) (bl e0_9_0) (dIs e0_9_1) (dSs e0_9_2) (dRs e0_10) (dWs e0_11))))))))) (bl (mk (Ev.text (Prod.fst (evL aOps (bl (mk (nmOf e0_0) ++ mk (tw (tlw (Ev.mk e0_0 (bl e0_1) (bl e0_2) (bl e0_3) e0_4 e0_5 e0_6 e0_7 (bl e0_8) (bl e0_9_0) (dIs e0_9_1) (dSs e0_9_2) (dRs e0_10) (dWs e0_11))))))))))) (bl (mk (Ev.gname (Prod.fst (evL aOps (bl (mk (nmOf e0_0) ++ mk (tw (tlw (Ev.mk e0_0 (bl e0_1) (bl e0_2) (bl e0_3) e0_4 e0_5 e0_6 e0_7 (bl e0_8) (bl e0_9_0) (dIs e0_9_1) (dSs e0_9_2) (dRs e0_10) (dWs e0_11))))))))))) (dIs (eIs (Ev.users (Prod.fst (evL aOps (bl (mk (nmOf e0_0) ++ mk (tw (tlw (Ev.mk e0_0 (bl e0_1) (bl e0_2) (bl e0_3) e0_4 e0_5 e0_6 e0_7 (bl e0_8) (bl e0_9_0) (dIs e0_9_1) (dSs e0_9_2) (dRs e0_10) (dWs e0_11))))))))))) (dSs (eSs (Ev.groups (Prod.fst (evL aOps (bl (mk (nmOf e0_0) ++ mk (tw (tlw (Ev.mk e0_0 (bl e0_1) (bl e0_2) (bl e0_3) e0_4 e0_5 e0_6 e0_7 (bl e0_8) (bl e0_9_0) (dIs e0_9_1) (dSs e0_9_2) (dRs e0_10) (dWs e0_11))))))))))) (dRs (eRs (Ev.rules (Prod.fst (evL aOps (bl (mk (nmOf e0_0) ++ mk (tw (tlw (Ev.mk e0_0 (bl e0_1) (bl e0_2) (bl e0_3) e0_4 e0_5 e0_6 e0_7 (bl e0_8) (bl e0_9_0) (dIs e0_9_1) (dSs e0_9_2) (dRs e0_10) (dWs e0_11))))))))))) (dWs (eWs (Ev.writes (Prod.fst (evL aOps (bl (mk (nmOf e0_0) ++ mk (tw (tlw (Ev.mk e0_0 (bl e0_1) (bl e0_2) (bl e0_3) e0_4 e0_5 e0_6 e0_7 (bl e0_8) (bl e0_9_0) (dIs e0_9_1) (dSs e0_9_2) (dRs e0_10) (dWs e0_11))))))))))))))
 (cond (!decide (Ev.mk e0_0 (bl e0_1) (bl e0_2) (bl e0_3) e0_4 e0_5 e0_6 e0_7 (bl e0_8) (bl e0_9_0) (dIs e0_9_1) (dSs e0_9_2) (dRs e0_10) (dWs e0_11) = Ev.mk (Ev.kind (Prod.fst (evL aOps (bl (mk (nmOf e0_0) ++ mk (tw (tlw (Ev.mk e0_0 (bl e0_1) (bl e0_2) (bl e0_3) e0_4 e0_5 e0_6 e0_7 (bl e0_8) (bl e0_9_0) (dIs e0_9_1) (dSs e0_9_2) (dRs e0_10) (dWs e0_11))))))))) (bl (mk (Ev.repo (Prod.fst (evL aOps (bl (mk (nmOf e0_0) ++ mk (tw (tlw (Ev.mk e0_0 (bl e0_1) (bl e0_2) (bl e0_3) e0_4 e0_5 e0_6 e0_7 (bl e0_8) (bl e0_9_0) (dIs e0_9_1) (dSs e0_9_2) (dRs e0_10) (dWs e0_11))))))))))) (bl (mk (Ev.name (Prod.fst (evL aOps (bl (mk (nmOf e0_0) ++ mk (tw (tlw (Ev.mk e0_0 (bl e0_1) (bl e0_2) (bl e0_3) e0_4 e0_5 e0_6 e0_7 (bl e0_8) (bl e0_9_0) (dIs e0_9_1) (dSs e0_9_2) (dRs e0_10) (dWs e0_11))))))))))) (bl (mk (Ev.other (Prod.fst (evL aOps (bl (mk (nmOf e0_0) ++ mk (tw (tlw (Ev.mk e0_0 (bl e0_1) (bl e0_2) (bl e0_3) e0_4 e0_5 e0_6 e0_7 (bl e0_8) (bl e0_9_0) (dIs e0_9_1) (dSs e0_9_2) (dRs e0_10) (dWs e0_11))))))))))) (Ev.who (Prod.fst (evL aOps (bl (mk (nmOf e0_0) ++ mk (tw (tlw (Ev.mk e0_0 (bl e0_1) (bl e0_2) (bl e0_3) e0_4 e0_5 e0_6 e0_7 (bl e0_8) (bl e0_9_0) (dIs e0_9_1) (dSs e0_9_2) (dRs e0_10) (dWs e0_11))))))))) (Ev.n (Prod.fst (evL aOps (bl (mk (nmOf e0_0) ++ mk (tw (tlw (Ev.mk e0_0 (bl e0_1) (bl e0_2) (bl e0_3) e0_4 e0_5 e0_6 e0_7 (bl e0_8) (bl e0_9_0) (dIs e0_9_1) (dSs e0_9_2) (dRs e0_10) (dWs e0_11))))))))) (Ev.m (Prod.fst (evL aOps (bl (mk (nmOf e0_0) ++ mk (tw (tlw (Ev.mk e0_0 (bl e0_1) (bl e0_2) (bl e0_3) e0_4 e0_5 e0_6 e0_7 (bl e0_8) (bl e0_9_0) (dIs e0_9_1) (dSs e0_9_2) (dRs e0_10) (dWs e0_11))))))))) (Ev.k (Prod.fst (evL aOps (bl (mk (nmOf e0_0) ++ mk (tw (tlw (Ev.mk e0_0 (bl e0_1) (bl e0_2) (bl e0_3) e0_4 e0_5 e0_6 e0_7 (bl e0_8) (bl e0_9_0) (dIs e0_9_1) (dSs e0_9_2) (dRs e0_10) (dWs e0_11))))))))) (bl (mk (Ev.text (Prod.fst (evL aOps (bl (mk (nmOf e0_0) ++ mk (tw (tlw (Ev.mk e0_0 (bl e0_1) (bl e0_2) (bl e0_3) e0_4 e0_5 e0_6 e0_7 (bl e0_8) (bl e0_9_0) (dIs e0_9_1) (dSs e0_9_2) (dRs e0_10) (dWs e0_11))))))))))) (bl (mk (Ev.gname (Prod.fst (evL aOps (bl (mk (nmOf e0_0) ++ mk (tw (tlw (Ev.mk e0_0 (bl e0_1) (bl e0_2) (bl e0_3) e0_4 e0_5 e0_6 e0_7 (bl e0_8) (bl e0_9_0) (dIs e0_9_1) (dSs e0_9_2) (dRs e0_10) (dWs e0_11))))))))))) (dIs (eIs (Ev.users (Prod.fst (evL aOps (bl (mk (nmOf e0_0) ++ mk (tw (tlw (Ev.mk e0_0 (bl e0_1) (bl e0_2) (bl e0_3) e0_4 e0_5 e0_6 e0_7 (bl e0_8) (bl e0_9_0) (dIs e0_9_1) (dSs e0_9_2) (dRs e0_10) (dWs e0_11))))))))))) (dSs (eSs (Ev.groups (Prod.fst (evL aOps (bl (mk (nmOf e0_0) ++ mk (tw (tlw (Ev.mk e0_0 (bl e0_1) (bl e0_2) (bl e0_3) e0_4 e0_5 e0_6 e0_7 (bl e0_8) (bl e0_9_0) (dIs e0_9_1) (dSs e0_9_2) (dRs e0_10) (dWs e0_11))))))))))) (dRs (eRs (Ev.rules (Prod.fst (evL aOps (bl (mk (nmOf e0_0) ++ mk (tw (tlw (Ev.mk e0_0 (bl e0_1) (bl e0_2) (bl e0_3) e0_4 e0_5 e0_6 e0_7 (bl e0_8) (bl e0_9_0) (dIs e0_9_1) (dSs e0_9_2) (dRs e0_10) (dWs e0_11))))))))))) (dWs (eWs (Ev.writes (Prod.fst (evL aOps (bl (mk (nmOf e0_0) ++ mk (tw (tlw (Ev.mk e0_0 (bl e0_1) (bl e0_2) (bl e0_3) e0_4 e0_5 e0_6 e0_7 (bl e0_8) (bl e0_9_0) (dIs e0_9_1) (dSs e0_9_2) (dRs e0_10) (dWs e0_11)))))))))))))
 (some [(.str (mk [])), (.int IntKind.i64 (1))])
 (cond (ltI 8000 (↑(ByteArray.size (mk (nmOf e0_0) ++ mk (tw (tlw (Ev.mk e0_0 (bl e0_1) (bl e0_2) (bl e0_3) e0_4 e0_5 e0_6 e0_7 (bl e0_8) (bl e0_9_0) (dIs e0_9_1) (dSs e0_9_2) (dRs e0_10) (dWs e0_11)))))) : Int))
 (some [(.str (mk [])), (.int IntKind.i64 (1))])
 (some [(.str (mk (nmOf e0_0) ++ mk (tw (tlw (Ev.mk e0_0 (bl e0_1) (bl e0_2) (bl e0_3) e0_4 e0_5 e0_6 e0_7 (bl e0_8) (bl e0_9_0) (dIs e0_9_1) (dSs e0_9_2) (dRs e0_10) (dWs e0_11)))))), (.int IntKind.i64 (0))])))
 none))
 none)
 none)
 none)
 none)))
 none) := by kernel_rfl

end Go.Ab
namespace Go.Ab
open Go.Proofs

theorem no10_le (t : W) : (no10 t).length ≤ t.length := (List.takeWhile_sublist _).length_le
theorem stF_lt : ∀ (s : W) (i : Nat) (b : Bool) (p : Nat), p ∈ stF i s b → i ≤ p ∧ p < i + s.length
  | [], _, _, _, h => by cases h
  | c :: s, i, b, p, h => by
    rw [stF] at h
    have ih := stF_lt s (i + 1) (c.toNat == 10) p
    simp only [List.length_cons]
    cases b
    · have := ih h; omega
    · rcases List.mem_cons.1 h with rfl | h
      · omega
      · have := ih h; omega
theorem stF_len : ∀ (s : W) (i : Nat) (b : Bool), (stF i s b).length ≤ s.length
  | [], _, _ => Nat.le_refl _
  | c :: s, i, b => by
    have ih := stF_len s (i + 1) (c.toNat == 10)
    rw [stF]
    simp only [List.length_cons]
    cases b
    · exact Nat.le_succ_of_le ih
    · exact Nat.succ_le_succ ih
theorem eNs_snoc (l : List Nat) (n : Nat) : eNs l ++ [[L.int IntKind.i64 (n : Int)]] = eNs (l ++ [n]) := by simp [eNs, eIs, eI1]
theorem eNs_len (l : List Nat) : (eNs l).length = l.length := by simp [eNs, eIs]
theorem starts_loop (s : W) (hs : s.length ≤ 1000000) : ∀ (m i : Nat) (acc : List Nat), i + m = s.length → acc.length ≤ i → Runs (cfg []) (starts_q3 (mk s) (i : Nat) (eNs acc)) [.lst 3 (eNs (acc ++ stF i (s.drop i) (i == 0 || (s.getD (i - 1) 0).toNat == 10)))]
  | 0, i, acc, h, ha => by
    refine Runs.by (starts_p3 · _ _ _) ?_
    rw [drop_end (l := s) (by omega)]
    simp (disch := omega) only [size_mk, ev_lt_f, cond_false]
    exact .ret' (by simp [stF])
  | m + 1, i, acc, h, ha => by
    have hi : i < s.length := by omega
    have ih := fun a ha' => starts_loop s hs m (i + 1) a (by omega) ha'
    have e1 : ((i + 1 == 0) || (s.getD (i + 1 - 1) 0).toNat == 10) = ((s.getD i 0).toNat == 10) := by
      rw [show i + 1 - 1 = i by omega]
      simp
    rw [e1] at ih
    refine Runs.by (starts_p3 · _ _ _) ?_
    rw [drop_at 0 hi, stF]
    simp (disch := omega) only [size_mk, ev_lt_t, eNs_len, roomN_t, w64, cond_true]
    by_cases h0 : i = 0
    · subst h0
      have := ih (acc ++ [0]) (by rw [List.length_append, List.length_singleton]; omega)
      rw [← eNs_snoc] at this
      rw [show (((0 : Nat) : Int) == 0) = true from rfl]
      simp only [cond_true, beq_self_eq_true, Bool.true_or]
      rw [List.append_assoc] at this
      exact .go this
    · have hb0 : (i == 0) = false := by simpa using h0
      obtain ⟨j, rfl⟩ : ∃ j, i = j + 1 := ⟨i - 1, by omega⟩
      have ei : ((j + 1 : Nat) : Int) - 1 = (j : Int) := by omega
      rw [ev_eq_f (by omega), hb0, Bool.false_or, show j + 1 - 1 = j by omega]
      simp (disch := omega) only [ei, ev_le_t, Bool.and_self, cond_true, cond_false, byI_mk]
      rw [show ((((s.getD j 0).toNat : Nat) : Int) == 10) = ((s.getD j 0).toNat == 10) from by rw [Bool.eq_iff_iff, beq_iff_eq, beq_iff_eq]; omega]
      cases hc : (s.getD j 0).toNat == 10
      · exact .go (ih acc (by omega))
      · have := ih (acc ++ [j + 1]) (by simp; omega)
        rw [← eNs_snoc, List.append_assoc] at this
        exact .go this
theorem starts_holds : Holds k_starts := conT_of (ks := []) hold0 fun s g => by
  refine Runs.by (starts_e · _) ?_
  have := starts_loop s (sm_of g) s.length 0 [] (Nat.zero_add _) (Nat.le_refl _)
  rw [List.drop_zero, List.nil_append] at this
  exact .go this
theorem stop_loop (s : W) (hs : s.length ≤ 1000000) : ∀ (m i : Nat), i + m = s.length → Runs (cfg []) (stop_q2 (mk s) (i : Nat)) [.int .i64 (stopF s i : Nat)]
  | 0, i, h => by
    refine Runs.by (stop_p2 · _ _) ?_
    simp (disch := omega) only [size_mk, ev_lt_f, cond_false]
    unfold stopF
    rw [drop_end (l := s) (by omega), show Nat.blt (i + (no10 []).length) s.length = false from by rw [← Bool.not_eq_true, Nat.blt_eq]; simp [no10]; omega]
    exact .ret
  | m + 1, i, h => by
    have hi : i < s.length := by omega
    have ih := stop_loop s hs m (i + 1) (by omega)
    refine Runs.by (stop_p2 · _ _) ?_
    simp (disch := omega) only [size_mk, ev_lt_t, ev_le_t, Bool.and_self, cond_true, byI_mk, w64]
    unfold stopF at ih ⊢
    rw [drop_at 0 hi]
    by_cases hc : (s.getD i 0).toNat = 10
    · rw [ev_eq_t (by omega)]
      have e : no10 (s.getD i 0 :: s.drop (i + 1)) = [] := by unfold no10; rw [List.takeWhile_cons, hc]; rfl
      rw [e, show Nat.blt (i + ([] : W).length) s.length = true from by rw [Nat.blt_eq]; simpa using hi]
      exact .ret' (by simp)
    · rw [ev_eq_f (by omega)]
      have hc' : ((s.getD i 0).toNat == 10) = false := by simpa using hc
      have e : no10 (s.getD i 0 :: s.drop (i + 1)) = s.getD i 0 :: no10 (s.drop (i + 1)) := by unfold no10; rw [List.takeWhile_cons, hc']; rfl
      rw [e, List.length_cons, show i + ((no10 (s.drop (i + 1))).length + 1) = i + 1 + (no10 (s.drop (i + 1))).length by omega]
      exact .go ih
theorem stop_holds : Holds k_stop := con_run (xs := []) hold0 fun aa hp r h => by
  split at h
  case h_2 => cases h
  rename_i s i
  obtain ⟨g, rfl⟩ := xo h
  simp only [Bool.and_eq_true] at g
  obtain ⟨s, rfl⟩ := str_cases s
  have g0 := sm_of g.1
  have g1 := leI_t g.2.1
  have g2 := leI_t g.2.2
  rw [size_mk] at g0 g2
  obtain ⟨i, rfl⟩ := Int.eq_ofNat_of_zero_le g1
  refine Runs.by (stop_e · _ _) ?_
  exact .go (stop_loop s g0 (s.length - i) i (by omega))
theorem stopF_spec (s : W) (i : Nat) (hi : i < s.length) : (stopF s i = i + (no10 (s.drop i)).length + 1 ∧ i + (no10 (s.drop i)).length < s.length ∧ (s.getD (i + (no10 (s.drop i)).length) 0).toNat = 10) ∨
    (stopF s i = s.length ∧ i + (no10 (s.drop i)).length = s.length ∧ (s.getD (s.length - 1) 0).toNat ≠ 10) := by
  have hle := no10_le (s.drop i)
  rw [List.length_drop] at hle
  have hat : ∀ (t : W), (no10 t).length < t.length → (t.getD (no10 t).length 0).toNat = 10 := by
    intro t
    induction t with
    | nil => intro h; cases h
    | cons c t ih =>
      intro h
      unfold no10 at h ih ⊢
      rw [List.takeWhile_cons] at h ⊢
      split at h
      · rename_i hc
        rw [if_pos hc]
        exact ih (Nat.lt_of_succ_lt_succ h)
      · rename_i hc
        rw [if_neg hc]
        simpa using hc
  have hall : ∀ (t : W) (j : Nat), j < (no10 t).length → (t.getD j 0).toNat ≠ 10 := by
    intro t
    induction t with
    | nil => intro j h; cases h
    | cons c t ih =>
      intro j h
      unfold no10 at h ih
      rw [List.takeWhile_cons] at h
      split at h
      · rename_i hc
        cases j with
        | zero => simpa using hc
        | succ j => exact ih j (Nat.lt_of_succ_lt_succ h)
      · cases h
  have gd : ∀ j, (s.drop i).getD j 0 = s.getD (i + j) 0 := fun j => by simp [List.getD]
  unfold stopF
  by_cases h : i + (no10 (s.drop i)).length < s.length
  · left
    rw [show Nat.blt (i + (no10 (s.drop i)).length) s.length = true from by rw [Nat.blt_eq]; exact h]
    have := hat (s.drop i) (by rw [List.length_drop]; omega)
    rw [gd] at this
    exact ⟨rfl, h, this⟩
  · right
    rw [show Nat.blt (i + (no10 (s.drop i)).length) s.length = false from by rw [← Bool.not_eq_true, Nat.blt_eq]; exact h]
    have := hall (s.drop i) (s.length - 1 - i) (by omega)
    rw [gd, show i + (s.length - 1 - i) = s.length - 1 by omega] at this
    exact ⟨rfl, by omega, this⟩
theorem no10_take (s : W) (i : Nat) : (s.drop i).take (no10 (s.drop i)).length = no10 (s.drop i) := by
  generalize s.drop i = t
  induction t with
  | nil => rfl
  | cons c t ih =>
    unfold no10 at ih ⊢
    rw [List.takeWhile_cons]
    split
    · rw [List.length_cons, List.take_succ_cons, ih]
    · rfl
theorem rlines_loop (s : W) (hs : s.length ≤ 1000000) (ps : List Nat) (hp : ∀ p ∈ ps, p < s.length) (hl : ps.length ≤ 1000000) : ∀ (m i : Nat) (acc : List W), i + m = ps.length → acc.length ≤ i →
    Runs (cfg [k_starts, k_stop]) (rlines_q4 (mk s) (eNs ps) (i : Nat) (eSs acc)) [.lst 9 (eSs (acc ++ (ps.drop i).map fun p => no10 (s.drop p)))]
  | 0, i, acc, h, ha => by
    refine Runs.by (rlines_p4 · _ _ _ _) ?_
    rw [drop_end (l := ps) (by omega)]
    simp (disch := omega) only [eNs_len, ev_lt_f, cond_false]
    exact .ret' (by simp)
  | m + 1, i, acc, h, ha => by
    have hi : i < ps.length := by omega
    have ih := rlines_loop s hs ps hp hl m (i + 1) (acc ++ [no10 (s.drop (ps.getD i 0))]) (by omega) (by simp; omega)
    rw [List.append_assoc] at ih
    have hx : atL (eNs ps) (i : Int) = eI1 ((ps.getD i 0 : Nat) : Int) := by
      have := atL_map eI1 (ps.map fun n : Nat => (n : Int)) i 0 (by rw [List.length_map]; exact hi)
      rw [show (ps.map fun n : Nat => (n : Int)).getD i 0 = ((ps.getD i 0 : Nat) : Int) from by simp [List.getD, List.getElem?_eq_getElem hi]] at this
      exact this
    have hpm : ps.getD i 0 < s.length := hp _ (by simp [List.getD, List.getElem?_eq_getElem hi])
    refine Runs.by (rlines_p4 · _ _ _ _) ?_
    rw [drop_at 0 hi, List.map_cons]
    have e0 : cI 0 (eI1 ((ps.getD i 0 : Nat) : Int)) = ((ps.getD i 0 : Nat) : Int) := rfl
    have hst := stopF_spec s (ps.getD i 0) hpm
    have htk := no10_take s (ps.getD i 0)
    simp only [hx, e0, bl_mk, Int.toNat_natCast, eNs_len, size_mk]
    generalize ps.getD i 0 = p at *
    rcases hst with ⟨q1, q2, q3⟩ | ⟨q1, q2, q3⟩
    · rw [q1]
      have e1 : wrapI IntKind.i64 (((p + (no10 (s.drop p)).length + 1 : Nat) : Int) - 1) = ((p + (no10 (s.drop p)).length : Nat) : Int) := by rw [w64 (by omega) (by omega)]; omega
      rw [e1, sm_t hs]
      simp (disch := omega) only [ev_lt_t, ev_le_t, Bool.and_self, cond_true, byI_mk, Int.toNat_natCast, ev_eq_t, eSs_len, roomN_t, w64]
      have e2 : (mk s).extract p (p + (no10 (s.drop p)).length) = mk (no10 (s.drop p)) := by
        rw [ext_mk, List.drop_take, show p + (no10 (s.drop p)).length - p = (no10 (s.drop p)).length by omega, htk]
      rw [e2]
      rw [← eSs_snoc'] at ih
      exact .go (by simpa [eSs, eS1] using ih)
    · rw [q1]
      obtain ⟨n, hn⟩ : ∃ n, s.length = n + 1 := ⟨s.length - 1, by omega⟩
      have e1 : wrapI IntKind.i64 (((s.length : Nat) : Int) - 1) = ((s.length - 1 : Nat) : Int) := by rw [w64 (by omega) (by omega)]; omega
      rw [e1, sm_t hs]
      simp (disch := omega) only [ev_lt_t, ev_le_t, Bool.and_self, cond_true, byI_mk, Int.toNat_natCast, ev_eq_f, cond_false, eSs_len, roomN_t, w64]
      have e2 : (mk s).extract p s.length = mk (no10 (s.drop p)) := by
        rw [ext_all]
        congr 1
        rw [← htk, List.take_of_length_le (by rw [List.length_drop]; omega)]
      rw [e2]
      rw [← eSs_snoc'] at ih
      exact .go (by simpa [eSs, eS1] using ih)
theorem rlines_holds : Holds k_rlines := conT_of (ks := [k_starts, k_stop]) (hold1 starts_holds (hold1 stop_holds hold0)) fun s g => by
  have g' := sm_of g
  refine Runs.by (rlines_e · _) ?_
  rw [bl_mk, g]
  have h1 := stF_len s 0 true
  have := rlines_loop s g' (stF 0 s true) (fun p hp => by have := stF_lt s 0 true p hp; omega) (by omega) (stF 0 s true).length 0 [] (Nat.zero_add _) (Nat.le_refl _)
  rw [List.drop_zero] at this
  exact .go this
end Go.Ab
namespace Go.Ab
open Go.Proofs

theorem encE_eq (e : Ev) : encE e = [L.int IntKind.i64 e.kind, L.str (mk e.repo), L.str (mk e.name), L.str (mk e.other), L.int IntKind.i64 e.who, L.int IntKind.i64 e.n, L.int IntKind.i64 e.m, L.int IntKind.i64 e.k, L.str (mk e.text), L.str (mk e.gname), L.lst 3 (eIs e.users), L.lst 9 (eSs e.groups), L.lst 65 (eRs e.rules), L.lst 51 (eWs e.writes)] := rfl
theorem eEs_snoc (l : List Ev) (e : Ev) : eEs l ++ [encE e] = eEs (l ++ [e]) := by simp [eEs]
theorem read_runs {C : Cfg} (f : W → Ev × Int) (w : W) (i : Nat) (acc : List Ev) (hi : i ≤ 1000000) (ha : acc.length ≤ 1000000) (hw : w.length ≤ 1000000) (Q : Int → List (List L) → Req) (T : List L)
    (h1 : skp w = true → Runs C (Q ((i : Int) + 1) (eEs acc)) T)
    (h2 : skp w = false → psE (f w) acc.length ≠ 0 → T = prL ⟨[], (i : Int) + 1, psE (f w) acc.length⟩)
    (h3 : skp w = false → psE (f w) acc.length = 0 → Runs C (Q ((i : Int) + 1) (eEs (acc ++ [(f w).1]))) T) :
    RunsF C (fun G => cond (bl (mk w) == bl (mk []))
      (G (Q (wrapI IntKind.i64 ((i : Int) + 1)) (eEs acc)))
      (cond (ltI 0 ((mk w).size : Nat))
       (cond (byI (mk w) 0 == 35)
        (G (Q (wrapI IntKind.i64 ((i : Int) + 1)) (eEs acc)))
        (cond (sm (mk w).size)
         (cond (Prod.snd (f (bl (mk w))) == 0)
          (cond (leI 400 ((eEs acc).length : Nat))
           (some [(.lst 42 []), (.int IntKind.i64 (wrapI IntKind.i64 ((i : Int) + 1))), (.int IntKind.i64 (4))])
           (cond (Prod.snd (f (bl (mk w))) != 0)
            (some [(.lst 42 []), (.int IntKind.i64 (wrapI IntKind.i64 ((i : Int) + 1))), (.int IntKind.i64 (Prod.snd (f (bl (mk w)))))])
            (cond (roomN ((eEs acc).length + 1) 216)
             (G (Q (wrapI IntKind.i64 ((i : Int) + 1)) (eEs acc ++ [encE (f (bl (mk w))).1])))
             none)))
          (cond (Prod.snd (f (bl (mk w))) != 0)
           (some [(.lst 42 []), (.int IntKind.i64 (wrapI IntKind.i64 ((i : Int) + 1))), (.int IntKind.i64 (Prod.snd (f (bl (mk w)))))])
           (cond (roomN ((eEs acc).length + 1) 216)
            (G (Q (wrapI IntKind.i64 ((i : Int) + 1)) (eEs acc ++ [encE (f (bl (mk w))).1])))
            none)))
         none))
       none)) T := by
  simp (disch := omega) only [bl_mk, size_mk, w64, eEs_len, roomN_t, cond_true, eEs_snoc, sm_t hw]
  rw [show (w == []) = w.isEmpty from by cases w <;> rfl]
  cases w with
  | nil => exact .go (h1 rfl)
  | cons c t =>
    have e0 : byI (mk (c :: t)) 0 = (c.toNat : Int) := byI_mk (c :: t) 0
    have es : skp (c :: t) = (c.toNat == 35) := rfl
    rw [e0, show (((c.toNat : Nat) : Int) == 35) = (c.toNat == 35) from by rw [Bool.eq_iff_iff, beq_iff_eq, beq_iff_eq]; omega]
    rw [es] at h1 h2 h3
    simp (disch := simp only [List.length_cons]; omega) only [List.isEmpty_cons, cond_false, ev_lt_t, cond_true]
    cases hc : c.toNat == 35
    · simp only [cond_false]
      by_cases hx : (f (c :: t)).2 = 0
      · rw [show ((f (c :: t)).2 == 0) = true from by rw [hx]; rfl, show ((f (c :: t)).2 != 0) = false from ev_ne_f hx]
        simp only [cond_true, cond_false]
        by_cases h4 : 400 ≤ acc.length
        · have hp : psE (f (c :: t)) acc.length = 4 := if_pos ⟨hx, h4⟩
          rw [h2 hc (by rw [hp]; decide), hp, ev_le_t (by omega)]
          exact .ret
        · have hp : psE (f (c :: t)) acc.length = 0 := (if_neg fun h => h4 h.2).trans hx
          rw [ev_le_f (by omega)]
          exact .go (h3 hc hp)
      · have hp : psE (f (c :: t)) acc.length = (f (c :: t)).2 := if_neg fun h => hx h.1
        rw [show ((f (c :: t)).2 == 0) = false from by simpa using hx, show ((f (c :: t)).2 != 0) = true from ev_ne_t hx, h2 hc (by rw [hp]; exact hx), hp]
        exact .ret
    · exact .go (h1 hc)
theorem psR_cons (f : W → Ev × Int) (w : W) (ws : List W) (i : Nat) (acc : List Ev) : psR f (w :: ws) i acc = cond (skp w) (psR f ws (i + 1) acc) (if psE (f w) acc.length ≠ 0 then ⟨[], (i : Int) + 1, psE (f w) acc.length⟩ else psR f ws (i + 1) (acc ++ [(f w).1])) := rfl
theorem pparse_loop (ws : List W) (hl : ws.length ≤ 100000) (hw : ∀ w ∈ ws, w.length ≤ 1000000) : ∀ (m i : Nat) (acc : List Ev), i + m = ws.length → acc.length ≤ i →
    Runs (cfg [k_Split, k_pevent]) (pparse_q5 (eSs ws) (ws.length : Nat) (i : Nat) (eEs acc)) (prL (psR (evL pOps) (ws.drop i) i acc))
  | 0, i, acc, h, ha => by
    refine Runs.by (pparse_p5 · _ _ _ _) ?_
    rw [drop_end (l := ws) (by omega)]
    simp (disch := omega) only [ev_lt_f, cond_false]
    exact .ret
  | m + 1, i, acc, h, ha => by
    have hi : i < ws.length := by omega
    have ih := fun a (ha' : a.length ≤ i + 1) => pparse_loop ws hl hw m (i + 1) a (by omega) ha'
    have hx : atL (eSs ws) (i : Int) = eS1 (ws.getD i []) := atL_map _ ws i _ hi
    have hm : ws.getD i [] ∈ ws := by simp [List.getD, List.getElem?_eq_getElem hi]
    have hwl := hw _ hm
    refine Runs.by (pparse_p5 · _ _ _ _) ?_
    rw [drop_at [] hi, psR_cons]
    have e0 : cT 0 (eS1 (ws.getD i [])) = mk (ws.getD i []) := rfl
    rw [hx, e0]
    generalize ws.getD i [] = w at *
    rw [ev_lt_t (show (i : Int) < (ws.length : Nat) by omega), eSs_len, ev_lt_t (show (i : Int) < (ws.length : Nat) by omega), ev_le_t (show (0 : Int) ≤ (i : Nat) by omega)]
    refine read_runs (evL pOps) w i acc (by omega) (by omega) hwl (fun j a => pparse_q5 (eSs ws) (ws.length : Nat) j a) _ (fun hs => ?_) (fun hs hp => ?_) (fun hs hp => ?_)
    · rw [hs]
      exact ih acc (by omega)
    · rw [hs, cond_false, if_pos hp]
    · rw [hs, cond_false, if_neg (fun h => h hp)]
      exact ih _ (by rw [List.length_append, List.length_singleton]; omega)
theorem rparse_loop (ws : List W) (hl : ws.length ≤ 100000) (hw : ∀ w ∈ ws, w.length ≤ 1000000) : ∀ (m i : Nat) (acc : List Ev), i + m = ws.length → acc.length ≤ i →
    Runs (cfg [k_rlines, k_read]) (rparse_q6 (eSs ws) (i : Nat) (eEs acc)) (prL (psR (evL aOps) (ws.drop i) i acc))
  | 0, i, acc, h, ha => by
    refine Runs.by (rparse_p6 · _ _ _) ?_
    rw [drop_end (l := ws) (by omega)]
    simp (disch := omega) only [eSs_len, ev_lt_f, cond_false]
    exact .ret
  | m + 1, i, acc, h, ha => by
    have hi : i < ws.length := by omega
    have ih := fun a (ha' : a.length ≤ i + 1) => rparse_loop ws hl hw m (i + 1) a (by omega) ha'
    have hx : atL (eSs ws) (i : Int) = eS1 (ws.getD i []) := atL_map _ ws i _ hi
    have hm : ws.getD i [] ∈ ws := by simp [List.getD, List.getElem?_eq_getElem hi]
    have hwl := hw _ hm
    refine Runs.by (rparse_p6 · _ _ _) ?_
    rw [drop_at [] hi, psR_cons]
    have e0 : cT 0 (eS1 (ws.getD i [])) = mk (ws.getD i []) := rfl
    rw [hx, e0]
    generalize ws.getD i [] = w at *
    have b1 : ltI (i : Int) ((eSs ws).length : Nat) = true := ev_lt_t (by rw [eSs_len]; omega)
    have b2 : leI 0 (i : Int) = true := ev_le_t (by omega)
    rw [b1, b2]
    exact read_runs (evL aOps) w i acc (by omega) (by omega) hwl (fun j a => rparse_q6 (eSs ws) j a) _ (fun hs => by
      rw [hs]
      exact ih acc (by omega)) (fun hs hp => by
      rw [hs, cond_false, if_pos hp]) (fun hs hp => by
      rw [hs, cond_false, if_neg (fun h => h hp)]
      exact ih _ (by rw [List.length_append, List.length_singleton]; omega))
theorem spl_len (c : UInt8) : ∀ s : W, (spl c s).length ≤ s.length + 1 ∧ ∀ w ∈ spl c s, w.length ≤ s.length
  | [] => ⟨Nat.le_refl _, fun w h => by simp [spl] at h; simp [h]⟩
  | x :: s => by
    obtain ⟨h1, h2⟩ := spl_len c s
    rw [spl]
    split
    · refine ⟨by simp only [List.length_cons]; omega, fun w h => ?_⟩
      rcases List.mem_cons.1 h with rfl | h
      · simp
      · have := h2 w h
        simp only [List.length_cons]; omega
    · split
      · exact ⟨by simp, fun w h => by simp at h; simp [h]⟩
      · rename_i hd tl e
        rw [e] at h1 h2
        refine ⟨by simp only [List.length_cons] at h1 ⊢; omega, fun w h => ?_⟩
        rcases List.mem_cons.1 h with rfl | h
        · have := h2 hd List.mem_cons_self
          simp only [List.length_cons]; omega
        · have := h2 w (List.mem_cons_of_mem _ h)
          simp only [List.length_cons]; omega
theorem pparse_holds : Holds k_pparse := conT_of (ks := [k_Split, k_pevent]) (hold1 Split_holds (hold1 pevent_holds hold0)) fun s g => by
  have g' := sm_of g
  refine Runs.by (pparse_e · _) ?_
  unfold parP
  rw [size_mk]
  by_cases h : 8000 < s.length
  · rw [if_pos h, ev_lt_t (by omega)]
    exact .ret
  · obtain ⟨q1, q2⟩ := spl_len 10 s
    have := pparse_loop (spl 10 s) (by omega) (fun w hw => by have := q2 w hw; omega) (spl 10 s).length 0 [] (Nat.zero_add _) (Nat.le_refl _)
    rw [if_neg h, ev_lt_f (by omega), nb (show s.length ≤ 1000000000 by omega), eSs_len]
    exact .go this
theorem rparse_holds : Holds k_rparse := conT_of (ks := [k_rlines, k_read]) (hold1 rlines_holds (hold1 read_holds hold0)) fun s g => by
  have g' := sm_of g
  refine Runs.by (rparse_e · _) ?_
  unfold parA
  rw [size_mk, bl_mk, g]
  by_cases h : 8000 < s.length
  · rw [if_pos h, ev_lt_t (by omega)]
    exact .ret
  · have h1 := stF_len s 0 true
    have hl : (rlines s).length ≤ s.length := by unfold rlines; rw [List.length_map]; exact h1
    have hw : ∀ w ∈ rlines s, w.length ≤ 1000000 := fun w hw => by
      obtain ⟨p, _, rfl⟩ := List.mem_map.1 hw
      have := no10_le (s.drop p)
      rw [List.length_drop] at this
      omega
    have := rparse_loop (rlines s) (by omega) hw (rlines s).length 0 [] (Nat.zero_add _) (Nat.le_refl _)
    rw [if_neg h, ev_lt_f (by omega)]
    exact .go this
end Go.Ab
namespace Go.Ab
open Go.Proofs
noncomputable def preply_q9 (x32 : List (List L)) (x33 : Int) (x34 : Int) (h0_0 : Int) (h0_1 : Int) (h0_2 : List (List L)) (h0_3 : List (List L)) (h0_4 : Bool) (h0_5 : Int) (h1 : List (List L)) : Req := .point 11 [] (todoAt Tryz.prog 11 9) ⟨[an, an, an, (.lf (.ptr 0 0)), an, (.lf (.row 1)), an, an, an, an, an, an, an, an, an, an, an, an, an, an, an, an, an, an, an, an, an, an, an, an, an, an, (.lf (.lst 54 x32)), (.lf (.int IntKind.i64 x33)), (.lf (.int IntKind.i64 x34)), an, an, an, an, an, an, an, an, an, an, an, an, an, an, an, an, an, an, an, an, an, an, an, an, an, an, an, an, an, an, an, an, an, an, an, an, an, an, an, an, an, an, an, an, an, an, an, an, an, an, an, an, an, an], [(.box [(.int IntKind.i64), (.int IntKind.i64), (.sl 54), (.sl 56), .bool, (.int IntKind.i64)] [(.int IntKind.i64 h0_0), (.int IntKind.i64 h0_1), (.lst 54 h0_2), (.lst 56 h0_3), (.bool h0_4), (.int IntKind.i64 h0_5)]), (.row 9 h1 true)]⟩
noncomputable def preply_q14 (x52 : List (List L)) (x53 : Int) (x54 : Int) (h0 : List (List L)) : Req := .point 11 [] (todoAt Tryz.prog 11 14) ⟨[an, an, an, an, an, (.lf (.row 0)), an, an, an, an, an, an, an, an, an, an, an, an, an, an, an, an, an, an, an, an, an, an, an, an, an, an, an, an, an, an, an, an, an, an, an, an, an, an, an, an, an, an, an, an, an, an, (.lf (.lst 56 x52)), (.lf (.int IntKind.i64 x53)), (.lf (.int IntKind.i64 x54)), an, an, an, an, an, an, an, an, an, an, an, an, an, an, an, an, an, an, an, an, an, an, an, an, an, an, an, an, an, an, an, an, an, an], [(.row 9 h0 true)]⟩
theorem preply_e (G : Req → R) (e0_0 : Int) (e0_1 : ByteArray) (e0_2 : ByteArray) (e0_3 : ByteArray) (e0_4 : Int) (e0_5 : Int) (e0_6 : Int) (e0_7 : Int) (e0_8 : ByteArray) (e0_9_0 : ByteArray) (e0_9_1 : List (List L)) (e0_9_2 : List (List L)) (e0_10 : List (List L)) (e0_11 : List (List L)) (r1_0 : Int) (r1_1 : Int) (r1_2_0 : List (List L)) (r1_2_1 : List (List L)) (r1_2_2 : Bool) (r1_3 : Int) : runB (cfg [k_Itoa, k_Join]) G (.enter 11 [(.agg [(.int IntKind.i64 (e0_0)), (.str (e0_1)), (.str (e0_2)), (.str (e0_3)), (.int IntKind.i64 (e0_4)), (.int IntKind.i64 (e0_5)), (.int IntKind.i64 (e0_6)), (.int IntKind.i64 (e0_7)), (.str (e0_8)), (.str (e0_9_0)), (.lst 3 e0_9_1), (.lst 9 e0_9_2), (.lst 65 e0_10), (.lst 51 e0_11)]), (.agg [(.int IntKind.i64 (r1_0)), (.int IntKind.i64 (r1_1)), (.lst 54 r1_2_0), (.lst 56 r1_2_1), (.bool (r1_2_2)), (.int IntKind.i64 (r1_3))])] []) =
 (cond (r1_0 != 0)
 (cond (i64B r1_0)
 (cond (leI (↑(6 + ByteArray.size (mk (it r1_0))) : Int) (IntKind.max IntKind.i64))
 (some [(.str (mk [101, 114, 114, 111, 114, 32] ++ mk (it r1_0)))])
 none)
 none)
 (cond (e0_0 == 9)
 (cond (i64B r1_3)
 (cond (r1_2_2)
 (G (preply_q9 r1_2_0 ((↑(List.length r1_2_0) : Int)) 0 r1_0 r1_1 r1_2_0 r1_2_1 r1_2_2 r1_3 (List.set [[L.str (mk [102, 111, 117, 110, 100])], [L.str (mk (it r1_3))], [L.str (mk [112, 97, 114, 116, 105, 97, 108])]] 2 [L.str (mk [99, 111, 109, 112, 108, 101, 116, 101])])))
 (G (preply_q9 r1_2_0 ((↑(List.length r1_2_0) : Int)) 0 r1_0 r1_1 r1_2_0 r1_2_1 r1_2_2 r1_3 ([[L.str (mk [102, 111, 117, 110, 100])], [L.str (mk (it r1_3))], [L.str (mk [112, 97, 114, 116, 105, 97, 108])]]))))
 none)
 (cond (e0_0 == 1)
 (cond (i64B r1_1)
 (cond (leI (↑(3 + ByteArray.size (mk (it r1_1))) : Int) (IntKind.max IntKind.i64))
 (some [(.str (mk [111, 107, 32] ++ mk (it r1_1)))])
 none)
 none)
 (cond (e0_0 == 4)
 (cond (i64B r1_1)
 (cond (leI (↑(3 + ByteArray.size (mk (it r1_1))) : Int) (IntKind.max IntKind.i64))
 (some [(.str (mk [111, 107, 32] ++ mk (it r1_1)))])
 none)
 none)
 (cond (e0_0 == 5)
 (cond (i64B r1_1)
 (cond (leI (↑(3 + ByteArray.size (mk (it r1_1))) : Int) (IntKind.max IntKind.i64))
 (some [(.str (mk [111, 107, 32] ++ mk (it r1_1)))])
 none)
 none)
 (cond (e0_0 == 10)
 (cond (i64B r1_1)
 (cond (leI (↑(3 + ByteArray.size (mk (it r1_1))) : Int) (IntKind.max IntKind.i64))
 (some [(.str (mk [111, 107, 32] ++ mk (it r1_1)))])
 none)
 none)
 (cond (e0_0 == 12)
 (cond (i64B r1_1)
 (cond (leI (↑(3 + ByteArray.size (mk (it r1_1))) : Int) (IntKind.max IntKind.i64))
 (some [(.str (mk [111, 107, 32] ++ mk (it r1_1)))])
 none)
 none)
 (cond (e0_0 == 13)
 (cond (i64B r1_1)
 (cond (leI (↑(3 + ByteArray.size (mk (it r1_1))) : Int) (IntKind.max IntKind.i64))
 (some [(.str (mk [111, 107, 32] ++ mk (it r1_1)))])
 none)
 none)
 (cond (e0_0 == 20)
 (cond (i64B r1_1)
 (cond (leI (↑(3 + ByteArray.size (mk (it r1_1))) : Int) (IntKind.max IntKind.i64))
 (some [(.str (mk [111, 107, 32] ++ mk (it r1_1)))])
 none)
 none)
 (cond (e0_0 == 21)
 (cond (i64B r1_1)
 (cond (leI (↑(3 + ByteArray.size (mk (it r1_1))) : Int) (IntKind.max IntKind.i64))
 (some [(.str (mk [111, 107, 32] ++ mk (it r1_1)))])
 none)
 none)
 (some [(.str (mk [111, 107]))]))))))))))) := by kernel_rfl
theorem preply_p9 (G : Req → R) (x32 : List (List L)) (x33 : Int) (x34 : Int) (h0_0 : Int) (h0_1 : Int) (h0_2 : List (List L)) (h0_3 : List (List L)) (h0_4 : Bool) (h0_5 : Int) (h1 : List (List L)) : runB (cfg [k_Itoa, k_Join]) G (preply_q9 x32 x33 x34 h0_0 h0_1 h0_2 h0_3 h0_4 h0_5 h1) =
 (cond (ltI x34 x33)
 (cond (leI 0 x34 && ltI x34 (↑(List.length x32) : Int))
 (dupN 1
 (cond (i64B (cI 0 (atL x32 x34)))
 (cond (leI (↑(ByteArray.size (mk (it (cI 0 (atL x32 x34)))) + 1) : Int) (IntKind.max IntKind.i64))
 (cond (i64B (cI 1 (atL x32 x34)))
 (cond (leI (↑(ByteArray.size (mk (it (cI 0 (atL x32 x34))) ++ mk [58]) + ByteArray.size (mk (it (cI 1 (atL x32 x34))))) : Int) (IntKind.max IntKind.i64))
 (cond (roomN (List.length h1 + 1) 16)
 (G (preply_q9 x32 x33 (wrapI IntKind.i64 (x34 + 1)) h0_0 h0_1 h0_2 h0_3 h0_4 h0_5 (h1 ++ [[L.str (mk (it (cI 0 (atL x32 x34))) ++ mk [58] ++ mk (it (cI 1 (atL x32 x34))))]])))
 none)
 none)
 none)
 none)
 none))
 none)
 (G (preply_q14 h0_3 ((↑(List.length h0_3) : Int)) 0 h1))) := by kernel_rfl
theorem preply_p14 (G : Req → R) (x52 : List (List L)) (x53 : Int) (x54 : Int) (h0 : List (List L)) : runB (cfg [k_Itoa, k_Join]) G (preply_q14 x52 x53 x54 h0) =
 (cond (ltI x54 x53)
 (cond (leI 0 x54 && ltI x54 (↑(List.length x52) : Int))
 (both
 (cond (i64B (cI 0 (atL x52 x54)))
 (both
 (cond (i64B (cI 1 (atL x52 x54)))
 (dupN 1
 (cond (i64B (cI 2 (atL x52 x54)))
 (cond (i64B (cI 3 (atL x52 x54)))
 (cond (roomN (List.length h0 + 5) 16)
 (G (preply_q14 x52 x53 (wrapI IntKind.i64 (x54 + 1)) (h0 ++ [[L.str (mk [115, 104, 97, 114, 100])], [L.str (mk (it (cI 0 (atL x52 x54))))], [L.str (mk (it (cI 1 (atL x52 x54))))], [L.str (mk (it (cI 2 (atL x52 x54))))], [L.str (mk (it (cI 3 (atL x52 x54))))]])))
 none)
 none)
 none))
 none)
 (both
 (both
 (cond (i64B (cI 1 (atL x52 x54)))
 (dupN 1
 (cond (i64B (cI 2 (atL x52 x54)))
 (cond (i64B (cI 3 (atL x52 x54)))
 (cond (roomN (List.length h0 + 5) 16)
 (G (preply_q14 x52 x53 (wrapI IntKind.i64 (x54 + 1)) (h0 ++ [[L.str (mk [115, 104, 97, 114, 100])], [L.str (mk (it (cI 0 (atL x52 x54))))], [L.str (mk (it (cI 1 (atL x52 x54))))], [L.str (mk (it (cI 2 (atL x52 x54))))], [L.str (mk (it (cI 3 (atL x52 x54))))]])))
 none)
 none)
 none))
 none)
 (cond (i64B (cI 1 (atL x52 x54)))
 (cond (i64B (cI 2 (atL x52 x54)))
 (cond (i64B (cI 3 (atL x52 x54)))
 (cond (roomN (List.length h0 + 5) 16)
 (G (preply_q14 x52 x53 (wrapI IntKind.i64 (x54 + 1)) (h0 ++ [[L.str (mk [115, 104, 97, 114, 100])], [L.str (mk (it (cI 0 (atL x52 x54))))], [L.str (mk (it (cI 1 (atL x52 x54))))], [L.str (mk (it (cI 2 (atL x52 x54))))], [L.str (mk (it (cI 3 (atL x52 x54))))]])))
 none)
 none)
 none)
 none))
 (dupN 1
 (cond (i64B (cI 1 (atL x52 x54)))
 (cond (i64B (cI 2 (atL x52 x54)))
 (cond (i64B (cI 3 (atL x52 x54)))
 (cond (roomN (List.length h0 + 5) 16)
 (G (preply_q14 x52 x53 (wrapI IntKind.i64 (x54 + 1)) (h0 ++ [[L.str (mk [115, 104, 97, 114, 100])], [L.str (mk (it (cI 0 (atL x52 x54))))], [L.str (mk (it (cI 1 (atL x52 x54))))], [L.str (mk (it (cI 2 (atL x52 x54))))], [L.str (mk (it (cI 3 (atL x52 x54))))]])))
 none)
 none)
 none)
 none))))
 none)
 (both
 (both
 (cond (i64B (cI 0 (atL x52 x54)))
 (both
 (cond (i64B (cI 1 (atL x52 x54)))
 (dupN 1
 (cond (i64B (cI 2 (atL x52 x54)))
 (cond (i64B (cI 3 (atL x52 x54)))
 (cond (roomN (List.length h0 + 5) 16)
 (G (preply_q14 x52 x53 (wrapI IntKind.i64 (x54 + 1)) (h0 ++ [[L.str (mk [115, 104, 97, 114, 100])], [L.str (mk (it (cI 0 (atL x52 x54))))], [L.str (mk (it (cI 1 (atL x52 x54))))], [L.str (mk (it (cI 2 (atL x52 x54))))], [L.str (mk (it (cI 3 (atL x52 x54))))]])))
 none)
 none)
 none))
 none)
 (both
 (both
 (cond (i64B (cI 1 (atL x52 x54)))
 (dupN 1
 (cond (i64B (cI 2 (atL x52 x54)))
 (cond (i64B (cI 3 (atL x52 x54)))
 (cond (roomN (List.length h0 + 5) 16)
 (G (preply_q14 x52 x53 (wrapI IntKind.i64 (x54 + 1)) (h0 ++ [[L.str (mk [115, 104, 97, 114, 100])], [L.str (mk (it (cI 0 (atL x52 x54))))], [L.str (mk (it (cI 1 (atL x52 x54))))], [L.str (mk (it (cI 2 (atL x52 x54))))], [L.str (mk (it (cI 3 (atL x52 x54))))]])))
 none)
 none)
 none))
 none)
 (cond (i64B (cI 1 (atL x52 x54)))
 (cond (i64B (cI 2 (atL x52 x54)))
 (cond (i64B (cI 3 (atL x52 x54)))
 (cond (roomN (List.length h0 + 5) 16)
 (G (preply_q14 x52 x53 (wrapI IntKind.i64 (x54 + 1)) (h0 ++ [[L.str (mk [115, 104, 97, 114, 100])], [L.str (mk (it (cI 0 (atL x52 x54))))], [L.str (mk (it (cI 1 (atL x52 x54))))], [L.str (mk (it (cI 2 (atL x52 x54))))], [L.str (mk (it (cI 3 (atL x52 x54))))]])))
 none)
 none)
 none)
 none))
 (dupN 1
 (cond (i64B (cI 1 (atL x52 x54)))
 (cond (i64B (cI 2 (atL x52 x54)))
 (cond (i64B (cI 3 (atL x52 x54)))
 (cond (roomN (List.length h0 + 5) 16)
 (G (preply_q14 x52 x53 (wrapI IntKind.i64 (x54 + 1)) (h0 ++ [[L.str (mk [115, 104, 97, 114, 100])], [L.str (mk (it (cI 0 (atL x52 x54))))], [L.str (mk (it (cI 1 (atL x52 x54))))], [L.str (mk (it (cI 2 (atL x52 x54))))], [L.str (mk (it (cI 3 (atL x52 x54))))]])))
 none)
 none)
 none)
 none))))
 none)
 (both
 (both
 (cond (i64B (cI 0 (atL x52 x54)))
 (both
 (cond (i64B (cI 1 (atL x52 x54)))
 (dupN 1
 (cond (i64B (cI 2 (atL x52 x54)))
 (cond (i64B (cI 3 (atL x52 x54)))
 (cond (roomN (List.length h0 + 5) 16)
 (G (preply_q14 x52 x53 (wrapI IntKind.i64 (x54 + 1)) (h0 ++ [[L.str (mk [115, 104, 97, 114, 100])], [L.str (mk (it (cI 0 (atL x52 x54))))], [L.str (mk (it (cI 1 (atL x52 x54))))], [L.str (mk (it (cI 2 (atL x52 x54))))], [L.str (mk (it (cI 3 (atL x52 x54))))]])))
 none)
 none)
 none))
 none)
 (cond (i64B (cI 1 (atL x52 x54)))
 (cond (i64B (cI 2 (atL x52 x54)))
 (cond (i64B (cI 3 (atL x52 x54)))
 (cond (roomN (List.length h0 + 5) 16)
 (G (preply_q14 x52 x53 (wrapI IntKind.i64 (x54 + 1)) (h0 ++ [[L.str (mk [115, 104, 97, 114, 100])], [L.str (mk (it (cI 0 (atL x52 x54))))], [L.str (mk (it (cI 1 (atL x52 x54))))], [L.str (mk (it (cI 2 (atL x52 x54))))], [L.str (mk (it (cI 3 (atL x52 x54))))]])))
 none)
 none)
 none)
 none))
 none)
 (cond (i64B (cI 0 (atL x52 x54)))
 (cond (i64B (cI 1 (atL x52 x54)))
 (cond (i64B (cI 2 (atL x52 x54)))
 (cond (i64B (cI 3 (atL x52 x54)))
 (cond (roomN (List.length h0 + 5) 16)
 (G (preply_q14 x52 x53 (wrapI IntKind.i64 (x54 + 1)) (h0 ++ [[L.str (mk [115, 104, 97, 114, 100])], [L.str (mk (it (cI 0 (atL x52 x54))))], [L.str (mk (it (cI 1 (atL x52 x54))))], [L.str (mk (it (cI 2 (atL x52 x54))))], [L.str (mk (it (cI 3 (atL x52 x54))))]])))
 none)
 none)
 none)
 none)
 none))
 (both
 (cond (i64B (cI 0 (atL x52 x54)))
 (dupN 1
 (cond (i64B (cI 1 (atL x52 x54)))
 (cond (i64B (cI 2 (atL x52 x54)))
 (cond (i64B (cI 3 (atL x52 x54)))
 (cond (roomN (List.length h0 + 5) 16)
 (G (preply_q14 x52 x53 (wrapI IntKind.i64 (x54 + 1)) (h0 ++ [[L.str (mk [115, 104, 97, 114, 100])], [L.str (mk (it (cI 0 (atL x52 x54))))], [L.str (mk (it (cI 1 (atL x52 x54))))], [L.str (mk (it (cI 2 (atL x52 x54))))], [L.str (mk (it (cI 3 (atL x52 x54))))]])))
 none)
 none)
 none)
 none))
 none)
 (cond (i64B (cI 0 (atL x52 x54)))
 (cond (i64B (cI 1 (atL x52 x54)))
 (cond (i64B (cI 2 (atL x52 x54)))
 (cond (i64B (cI 3 (atL x52 x54)))
 (cond (roomN (List.length h0 + 5) 16)
 (G (preply_q14 x52 x53 (wrapI IntKind.i64 (x54 + 1)) (h0 ++ [[L.str (mk [115, 104, 97, 114, 100])], [L.str (mk (it (cI 0 (atL x52 x54))))], [L.str (mk (it (cI 1 (atL x52 x54))))], [L.str (mk (it (cI 2 (atL x52 x54))))], [L.str (mk (it (cI 3 (atL x52 x54))))]])))
 none)
 none)
 none)
 none)
 none))))
 (both
 (both
 (cond (i64B (cI 0 (atL x52 x54)))
 (both
 (cond (i64B (cI 1 (atL x52 x54)))
 (dupN 1
 (cond (i64B (cI 2 (atL x52 x54)))
 (cond (i64B (cI 3 (atL x52 x54)))
 (cond (roomN (List.length h0 + 5) 16)
 (G (preply_q14 x52 x53 (wrapI IntKind.i64 (x54 + 1)) (h0 ++ [[L.str (mk [115, 104, 97, 114, 100])], [L.str (mk (it (cI 0 (atL x52 x54))))], [L.str (mk (it (cI 1 (atL x52 x54))))], [L.str (mk (it (cI 2 (atL x52 x54))))], [L.str (mk (it (cI 3 (atL x52 x54))))]])))
 none)
 none)
 none))
 none)
 (cond (i64B (cI 1 (atL x52 x54)))
 (cond (i64B (cI 2 (atL x52 x54)))
 (cond (i64B (cI 3 (atL x52 x54)))
 (cond (roomN (List.length h0 + 5) 16)
 (G (preply_q14 x52 x53 (wrapI IntKind.i64 (x54 + 1)) (h0 ++ [[L.str (mk [115, 104, 97, 114, 100])], [L.str (mk (it (cI 0 (atL x52 x54))))], [L.str (mk (it (cI 1 (atL x52 x54))))], [L.str (mk (it (cI 2 (atL x52 x54))))], [L.str (mk (it (cI 3 (atL x52 x54))))]])))
 none)
 none)
 none)
 none))
 none)
 (both
 (both
 (cond (i64B (cI 0 (atL x52 x54)))
 (both
 (cond (i64B (cI 1 (atL x52 x54)))
 (dupN 1
 (cond (i64B (cI 2 (atL x52 x54)))
 (cond (i64B (cI 3 (atL x52 x54)))
 (cond (roomN (List.length h0 + 5) 16)
 (G (preply_q14 x52 x53 (wrapI IntKind.i64 (x54 + 1)) (h0 ++ [[L.str (mk [115, 104, 97, 114, 100])], [L.str (mk (it (cI 0 (atL x52 x54))))], [L.str (mk (it (cI 1 (atL x52 x54))))], [L.str (mk (it (cI 2 (atL x52 x54))))], [L.str (mk (it (cI 3 (atL x52 x54))))]])))
 none)
 none)
 none))
 none)
 (cond (i64B (cI 1 (atL x52 x54)))
 (cond (i64B (cI 2 (atL x52 x54)))
 (cond (i64B (cI 3 (atL x52 x54)))
 (cond (roomN (List.length h0 + 5) 16)
 (G (preply_q14 x52 x53 (wrapI IntKind.i64 (x54 + 1)) (h0 ++ [[L.str (mk [115, 104, 97, 114, 100])], [L.str (mk (it (cI 0 (atL x52 x54))))], [L.str (mk (it (cI 1 (atL x52 x54))))], [L.str (mk (it (cI 2 (atL x52 x54))))], [L.str (mk (it (cI 3 (atL x52 x54))))]])))
 none)
 none)
 none)
 none))
 none)
 (cond (i64B (cI 0 (atL x52 x54)))
 (cond (i64B (cI 1 (atL x52 x54)))
 (cond (i64B (cI 2 (atL x52 x54)))
 (cond (i64B (cI 3 (atL x52 x54)))
 (cond (roomN (List.length h0 + 5) 16)
 (G (preply_q14 x52 x53 (wrapI IntKind.i64 (x54 + 1)) (h0 ++ [[L.str (mk [115, 104, 97, 114, 100])], [L.str (mk (it (cI 0 (atL x52 x54))))], [L.str (mk (it (cI 1 (atL x52 x54))))], [L.str (mk (it (cI 2 (atL x52 x54))))], [L.str (mk (it (cI 3 (atL x52 x54))))]])))
 none)
 none)
 none)
 none)
 none))
 (dupN 1
 (cond (i64B (cI 0 (atL x52 x54)))
 (cond (i64B (cI 1 (atL x52 x54)))
 (cond (i64B (cI 2 (atL x52 x54)))
 (cond (i64B (cI 3 (atL x52 x54)))
 (cond (roomN (List.length h0 + 5) 16)
 (G (preply_q14 x52 x53 (wrapI IntKind.i64 (x54 + 1)) (h0 ++ [[L.str (mk [115, 104, 97, 114, 100])], [L.str (mk (it (cI 0 (atL x52 x54))))], [L.str (mk (it (cI 1 (atL x52 x54))))], [L.str (mk (it (cI 2 (atL x52 x54))))], [L.str (mk (it (cI 3 (atL x52 x54))))]])))
 none)
 none)
 none)
 none)
 none))))
 (both
 (cond (i64B (cI 0 (atL x52 x54)))
 (dupN 1
 (cond (i64B (cI 1 (atL x52 x54)))
 (cond (i64B (cI 2 (atL x52 x54)))
 (cond (i64B (cI 3 (atL x52 x54)))
 (cond (roomN (List.length h0 + 5) 16)
 (G (preply_q14 x52 x53 (wrapI IntKind.i64 (x54 + 1)) (h0 ++ [[L.str (mk [115, 104, 97, 114, 100])], [L.str (mk (it (cI 0 (atL x52 x54))))], [L.str (mk (it (cI 1 (atL x52 x54))))], [L.str (mk (it (cI 2 (atL x52 x54))))], [L.str (mk (it (cI 3 (atL x52 x54))))]])))
 none)
 none)
 none)
 none))
 none)
 (both
 (both
 (cond (i64B (cI 0 (atL x52 x54)))
 (dupN 1
 (cond (i64B (cI 1 (atL x52 x54)))
 (cond (i64B (cI 2 (atL x52 x54)))
 (cond (i64B (cI 3 (atL x52 x54)))
 (cond (roomN (List.length h0 + 5) 16)
 (G (preply_q14 x52 x53 (wrapI IntKind.i64 (x54 + 1)) (h0 ++ [[L.str (mk [115, 104, 97, 114, 100])], [L.str (mk (it (cI 0 (atL x52 x54))))], [L.str (mk (it (cI 1 (atL x52 x54))))], [L.str (mk (it (cI 2 (atL x52 x54))))], [L.str (mk (it (cI 3 (atL x52 x54))))]])))
 none)
 none)
 none)
 none))
 none)
 (cond (i64B (cI 0 (atL x52 x54)))
 (cond (i64B (cI 1 (atL x52 x54)))
 (cond (i64B (cI 2 (atL x52 x54)))
 (cond (i64B (cI 3 (atL x52 x54)))
 (cond (roomN (List.length h0 + 5) 16)
 (G (preply_q14 x52 x53 (wrapI IntKind.i64 (x54 + 1)) (h0 ++ [[L.str (mk [115, 104, 97, 114, 100])], [L.str (mk (it (cI 0 (atL x52 x54))))], [L.str (mk (it (cI 1 (atL x52 x54))))], [L.str (mk (it (cI 2 (atL x52 x54))))], [L.str (mk (it (cI 3 (atL x52 x54))))]])))
 none)
 none)
 none)
 none)
 none))
 (dupN 1
 (cond (i64B (cI 0 (atL x52 x54)))
 (cond (i64B (cI 1 (atL x52 x54)))
 (cond (i64B (cI 2 (atL x52 x54)))
 (cond (i64B (cI 3 (atL x52 x54)))
 (cond (roomN (List.length h0 + 5) 16)
 (G (preply_q14 x52 x53 (wrapI IntKind.i64 (x54 + 1)) (h0 ++ [[L.str (mk [115, 104, 97, 114, 100])], [L.str (mk (it (cI 0 (atL x52 x54))))], [L.str (mk (it (cI 1 (atL x52 x54))))], [L.str (mk (it (cI 2 (atL x52 x54))))], [L.str (mk (it (cI 3 (atL x52 x54))))]])))
 none)
 none)
 none)
 none)
 none)))))))
 none)
 (cond (Nat.ble (List.length h0) 1000000 && (Nat.ble (List.length (jn (dSs h0))) 100000000 && true))
 (some [(.str (mk (jn (dSs h0))))])
 none)) := by kernel_rfl

end Go.Ab
namespace Go.Ab
open Go.Proofs
theorem eSs_a (l : List W) (w : W) : eSs l ++ [[L.str (mk w)]] = eSs (l ++ [w]) := eSs_app l [w]
theorem eSs_a5 (l : List W) (a b c d e : W) : eSs l ++ [[L.str (mk a)], [L.str (mk b)], [L.str (mk c)], [L.str (mk d)], [L.str (mk e)]] = eSs (l ++ [a, b, c, d, e]) := eSs_app l [a, b, c, d, e]
theorem cellAll {P : List L → Bool} {l : List (List L)} (h : l.all P = true) {i : Nat} (hi : i < l.length) : P (l.getD i []) = true := by
  refine List.all_eq_true.1 h _ ?_
  simp [List.getD, List.getElem?_eq_getElem hi]
theorem okPr_of {x : List L} (h : okPr x = true) : ((i64B (cI 0 x) = true ∧ i64B (cI 1 x) = true) ∧ i64B (cI 2 x) = true ∧ i64B (cI 3 x) = true) := by
  unfold okPr at h
  simpa only [Bool.and_eq_true] using h
theorem okRe_of {x : List L} (h : okRe x = true) : i64B (cI 0 x) = true ∧ i64B (cI 1 x) = true := by
  unfold okRe at h
  simpa only [Bool.and_eq_true] using h
theorem jn_done (ls : List W) (h : wl ls ≤ 900000) {_ : Req → R} : (cond (Nat.ble (List.length (eSs ls)) 1000000 && (Nat.ble (List.length (jn (dSs (eSs ls)))) 100000000 && true)) (some [L.str (mk (jn (dSs (eSs ls))))]) none : R) = some [.str (mk (jn ls))] := by
  have h1 := len_wl ls
  have h2 := jn_wl ls
  rw [dSs_e, eSs_len, nb (by omega), nb (by omega)]; rfl
theorem rp14 (ps : List (List L)) (hp : ps.all okPr = true) (hl : ps.length ≤ 1000) : ∀ (m i : Nat) (ls : List W), i + m = ps.length → wl ls ≤ 200000 + 100 * i → Runs (cfg [k_Itoa, k_Join]) (preply_q14 ps (ps.length : Int) (i : Nat) (eSs ls)) [.str (mk (jn (ls ++ (ps.drop i).flatMap wPro)))]
  | 0, i, ls, h, ha => by
    refine Runs.by (preply_p14 · _ _ _ _) ?_
    rw [drop_end (l := ps) (by omega)]
    have h1 := len_wl ls
    have h2 := jn_wl ls
    simp (disch := omega) only [ev_lt_f, cond_false, dSs_e, eSs_len, nb, Bool.and_self, cond_true, List.flatMap_nil, List.append_nil]
    exact .ret
  | m + 1, i, ls, h, ha => by
    have hi : i < ps.length := by omega
    have g := cellAll hp hi
    obtain ⟨⟨g0, g1⟩, g2, g3⟩ := okPr_of g
    have h1 := len_wl ls
    have ih := rp14 ps hp hl m (i + 1) (ls ++ wPro (ps.getD i [])) (by omega) (by
      have l0 := it_len g0
      have l1 := it_len g1
      have l2 := it_len g2
      have l3 := it_len g3
      unfold wPro
      simp only [wl_app, wl_cons, wl_nil, List.length_cons, List.length_nil]
      omega)
    refine Runs.by (preply_p14 · _ _ _ _) ?_
    rw [drop_at [] hi, List.flatMap_cons, ← List.append_assoc]
    have hc : atL ps (i : Int) = ps.getD i [] := rfl
    have r1 : roomN ((eSs ls).length + 5) 16 = true := by rw [eSs_len]; exact roomN_t (by omega) (by omega)
    simp (disch := omega) only [hc, g0, g1, g2, g3, ev_lt_t, ev_le_t, Bool.and_self, cond_true, r1, dupN_eq, both_self, w64, eSs_a5]
    exact .go ih
theorem rp9 (rs ps : List (List L)) (hr : rs.all okRe = true) (hlr : rs.length ≤ 1000) (hp : ps.all okPr = true) (hl : ps.length ≤ 1000) (a b tot : Int) (q : Bool) (q2 : List (List L)) : ∀ (m i : Nat) (ls : List W), i + m = rs.length → wl ls ≤ 1000 + 100 * i → Runs (cfg [k_Itoa, k_Join]) (preply_q9 rs (rs.length : Int) (i : Nat) a b q2 ps q tot (eSs ls)) [.str (mk (jn (ls ++ ((rs.drop i).map wRes ++ ps.flatMap wPro))))]
  | 0, i, ls, h, ha => by
    refine Runs.by (preply_p9 · _ _ _ _ _ _ _ _ _ _) ?_
    rw [drop_end (l := rs) (by omega)]
    have := rp14 ps hp hl ps.length 0 ls (by omega) (by omega)
    rw [List.drop_zero] at this
    simp (disch := omega) only [ev_lt_f, cond_false]
    exact .go this
  | m + 1, i, ls, h, ha => by
    have hi : i < rs.length := by omega
    have g := cellAll hr hi
    obtain ⟨g0, g1⟩ := okRe_of g
    have l0 := it_len g0
    have l1 := it_len g1
    have h1 := len_wl ls
    have ih := rp9 rs ps hr hlr hp hl a b tot q q2 m (i + 1) (ls ++ [wRes (rs.getD i [])]) (by omega) (by
      unfold wRes
      simp only [wl_app, wl_cons, wl_nil, List.length_cons, List.length_append]
      omega)
    refine Runs.by (preply_p9 · _ _ _ _ _ _ _ _ _ _) ?_
    rw [drop_at [] hi, List.map_cons, List.cons_append, show ∀ (a : W) (l : List W), ls ++ a :: l = ls ++ [a] ++ l from fun a l => by simp]
    have hc : atL rs (i : Int) = rs.getD i [] := rfl
    have r1 : roomN ((eSs ls).length + 1) 16 = true := by rw [eSs_len]; exact roomN_t (by omega) (by omega)
    have e : mk (it (cI 0 (rs.getD i []))) ++ mk [58] ++ mk (it (cI 1 (rs.getD i []))) = mk (wRes (rs.getD i [])) := by
      rw [mk_app, mk_app, List.append_assoc]; rfl
    have m1 : IntKind.max IntKind.i64 = 9223372036854775807 := rfl
    have q1 : leI (((mk (it (cI 0 (rs.getD i [])))).size + 1 : Nat) : Int) (IntKind.max IntKind.i64) = true := by rw [size_mk, m1]; exact ev_le_t (by omega)
    have q2 : leI (((mk (it (cI 0 (rs.getD i [])) ) ++ mk [58]).size + (mk (it (cI 1 (rs.getD i [])))).size : Nat) : Int) (IntKind.max IntKind.i64) = true := by
      rw [mk_app, size_mk, size_mk, m1, List.length_append, List.length_singleton]; exact ev_le_t (by omega)
    simp (disch := omega) only [hc, g0, g1, q1, q2, ev_lt_t, ev_le_t, Bool.and_self, cond_true, r1, dupN_eq, w64, e, eSs_a]
    exact .go ih
theorem RunsF.ret_ {C : Cfg} {a : R} {r : List L} (h : a = some r) : RunsF C (fun _ => a) r := ⟨0, h⟩
theorem rp_ok {n : Int} (g : i64B n = true) : (cond (i64B n) (cond (leI (↑(3 + ByteArray.size (mk (it n))) : Int) (IntKind.max IntKind.i64)) (some [(.str (mk [111, 107, 32] ++ mk (it n)))]) none) none : R) = some [.str (mk ([111, 107, 32] ++ it n))] := by
  have l0 := it_len g
  have m1 : IntKind.max IntKind.i64 = 9223372036854775807 := rfl
  rw [g, size_mk, m1, ev_le_t (by omega), mk_app]; rfl
theorem isN_sw (k : Int) (A B : R) : cond (k == 1) A (cond (k == 4) A (cond (k == 5) A (cond (k == 10) A (cond (k == 12) A (cond (k == 13) A (cond (k == 20) A (cond (k == 21) A B))))))) = cond (isN k) A B := by
  unfold isN
  cases k == 1 <;> cases k == 4 <;> cases k == 5 <;> cases k == 10 <;> cases k == 12 <;> cases k == 13 <;> cases k == 20 <;> cases k == 21 <;> rfl
theorem preply_runs (k a4 a5 a6 a7 err n tot : Int) (a1 a2 a3 a8 a9 : ByteArray) (us gs rs ws re pr : List (List L)) (c : Bool) (g : gRp err n re pr tot = true) : Runs (cfg [k_Itoa, k_Join]) (.enter 11 [.agg [.int .i64 k, .str a1, .str a2, .str a3, .int .i64 a4, .int .i64 a5, .int .i64 a6, .int .i64 a7, .str a8, .str a9, .lst 3 us, .lst 9 gs, .lst 65 rs, .lst 51 ws], .agg [.int .i64 err, .int .i64 n, .lst 54 re, .lst 56 pr, .bool c, .int .i64 tot]] []) [.str (mk (rpS k err n re pr c tot))] := by
  unfold gRp at g
  simp only [Bool.and_eq_true] at g
  obtain ⟨⟨g1, g2, g3⟩, ⟨g4, g5⟩, g6, g7⟩ := g
  have g6 := Nat.le_of_ble_eq_true g6
  have g7 := Nat.le_of_ble_eq_true g7
  have l0 := it_len g1
  have l3 := it_len g3
  have m1 : IntKind.max IntKind.i64 = 9223372036854775807 := rfl
  have q1 : leI (((6 + (mk (it err)).size : Nat) : Int)) (IntKind.max IntKind.i64) = true := by rw [size_mk, m1]; exact ev_le_t (by omega)
  have go : ∀ b : W, b.length ≤ 10 → Runs (cfg [k_Itoa, k_Join]) (preply_q9 re (re.length : Int) 0 err n re pr c tot [[L.str (mk [102, 111, 117, 110, 100])], [L.str (mk (it tot))], [L.str (mk b)]]) [.str (mk (jn ([[102, 111, 117, 110, 100], it tot, b] ++ (re.map wRes ++ pr.flatMap wPro))))] := fun b hb => by
    have := rp9 re pr g4 g6 g5 g7 err n tot c re re.length 0 [[102, 111, 117, 110, 100], it tot, b] (by omega) (by simp only [wl_cons, wl_nil, List.length_cons, List.length_nil]; omega)
    rw [List.drop_zero] at this
    exact this
  refine Runs.by (preply_e · _ _ _ _ _ _ _ _ _ _ _ _ _ _ _ _ _ _ _ _) ?_
  rw [g1, q1, g3]
  simp only [cond_true]
  unfold rpS
  cases he : err != 0
  · simp only [cond_false]
    cases hk : k == 9
    · simp only [cond_false]
      rw [rp_ok g2]
      cases hn : isN k
      · refine RunsF.ret_ ?_
        rw [isN_sw, hn]; rfl
      · refine RunsF.ret_ ?_
        rw [isN_sw, hn]; rfl
    · simp only [cond_true, rpW]
      cases c
      · exact .go (go [112, 97, 114, 116, 105, 97, 108] (by decide))
      · exact .go (go [99, 111, 109, 112, 108, 101, 116, 101] (by decide))
  · simp only [cond_true, mk_app]
    exact .ret
theorem preply_holds : Holds k_preply := con_run (xs := [k_Itoa, k_Join]) (hold1 Itoa_holds (hold1 Join_holds hold0)) fun aa hp r h => by
  unfold conRp at h
  split at h
  case h_2 => cases h
  obtain ⟨g, rfl⟩ := xo h
  exact preply_runs _ _ _ _ _ _ _ _ _ _ _ _ _ _ _ _ _ _ _ _ g
end Go.Ab
namespace Go.Ab
open Go.Proofs

theorem lpW_len : ∀ (f : Nat) (x : Rs) (a : List Wr), (lpW f x a).1.length ≤ a.length + f
  | 0, _, _ => Nat.le_refl _
  | f + 1, x, a => by
    rw [lpW]
    cases mo x
    · exact Nat.le_add_right _ _
    · cases vW x == wPut
      · cases vW x == wDel
        · have := lpW_len f ((sW x).1, true) a
          show (lpW f ((sW x).1, true) a).1.length ≤ _
          omega
        · have := lpW_len f (sW (sW x)) (a ++ [(vW (sW x), [], true)])
          rw [List.length_append, List.length_singleton] at this
          show (lpW f (sW (sW x)) (a ++ [(vW (sW x), [], true)])).1.length ≤ _
          omega
      · have := lpW_len f (sT (sW (sW x))) (a ++ [(vW (sW x), vT (sW (sW x)), false)])
        rw [List.length_append, List.length_singleton] at this
        show (lpW f (sT (sW (sW x))) (a ++ [(vW (sW x), vT (sW (sW x)), false)])).1.length ≤ _
        omega
theorem lpG_len : ∀ (f : Nat) (x : Rs) (u : List Int) (g : List W), (lpG f x u g).1.1.length ≤ u.length + f ∧ (lpG f x u g).1.2.length ≤ g.length + f
  | 0, _, _, _ => ⟨Nat.le_refl _, Nat.le_refl _⟩
  | f + 1, x, u, g => by
    rw [lpG]
    cases mo x
    · exact ⟨Nat.le_add_right _ _, Nat.le_add_right _ _⟩
    · cases vW x == wUser && g.isEmpty
      · cases vW x == wGroup
        · have := lpG_len f ((sW x).1, true) u g
          show (lpG f ((sW x).1, true) u g).1.1.length ≤ _ ∧ (lpG f ((sW x).1, true) u g).1.2.length ≤ _
          omega
        · have := lpG_len f (sW (sW x)) u (g ++ [vW (sW x)])
          rw [List.length_append, List.length_singleton] at this
          show (lpG f (sW (sW x)) u (g ++ [vW (sW x)])).1.1.length ≤ _ ∧ (lpG f (sW (sW x)) u (g ++ [vW (sW x)])).1.2.length ≤ _
          omega
      · have := lpG_len f (sN (sW x)) (u ++ [vN (sW x)]) g
        rw [List.length_append, List.length_singleton] at this
        show (lpG f (sN (sW x)) (u ++ [vN (sW x)]) g).1.1.length ≤ _ ∧ (lpG f (sN (sW x)) (u ++ [vN (sW x)]) g).1.2.length ≤ _
        omega
theorem lpR_len : ∀ (f : Nat) (x : Rs) (a : List Ru), (lpR f x a).1.length ≤ a.length + f
  | 0, _, _ => Nat.le_refl _
  | f + 1, x, a => by
    rw [lpR]
    cases mo x
    · exact Nat.le_add_right _ _
    · have := lpR_len f ((sW (sW (sW (sW x)))).1, (sW (sW (sW (sW x)))).2 || (!(vW x == wAllow) && !(vW x == wDeny))) (a ++ [(vW x == wAllow, vW (sW x), rp (vW (sW (sW x))), vW (sW (sW (sW x))))])
      rw [List.length_append, List.length_singleton] at this
      show (lpR f ((sW (sW (sW (sW x)))).1, (sW (sW (sW (sW x)))).2 || (!(vW x == wAllow) && !(vW x == wDeny))) (a ++ [(vW x == wAllow, vW (sW x), rp (vW (sW (sW x))), vW (sW (sW (sW x))))])).1.length ≤ _
      omega
def LsLe (n : Nat) (e : Ev) : Prop := (e.users.length ≤ n ∧ e.groups.length ≤ n) ∧ e.rules.length ≤ n ∧ e.writes.length ≤ n
theorem lsLe_0 (n : Nat) (e : Ev) (h1 : e.users = []) (h2 : e.groups = []) (h3 : e.rules = []) (h4 : e.writes = []) : LsLe n e := by
  unfold LsLe
  rw [h1, h2, h3, h4]
  exact ⟨⟨Nat.zero_le _, Nat.zero_le _⟩, Nat.zero_le _, Nat.zero_le _⟩
theorem ls_c {n : Nat} {b : Bool} {r r' : Ev × Rs} (h1 : LsLe n r.1) (h2 : LsLe n r'.1) : LsLe n (cond b r r').1 := by
  cases b
  · exact h2
  · exact h1
theorem evG_ls (k : Int) (x : Rs) : LsLe (x.1.length + 1) (evG pOps k x).1 := by
  have z : ∀ e : Ev, e.users = [] → e.groups = [] → e.rules = [] → e.writes = [] → LsLe (x.1.length + 1) e := fun e => lsLe_0 _ e
  have c : LsLe (x.1.length + 1) (evCom pOps k x).1 := by
    have h := lpW_len (fu (sN (sW (sW x)))) (sN (sW (sW x))) []
    have h1 := sW_len x
    have h2 := sW_len (sW x)
    have h3 := sN_len (sW (sW x))
    refine ⟨⟨Nat.zero_le _, Nat.zero_le _⟩, Nat.zero_le _, ?_⟩
    show (lpW (fu (sN (sW (sW x)))) (sN (sW (sW x))) []).1.length ≤ _
    simp only [List.length_nil, fu] at h ⊢
    omega
  have g : LsLe (x.1.length + 1) (evGrp pOps k x).1 := by
    have h := lpG_len (fu (sW x)) (sW x) [] []
    have h1 := sW_len x
    refine ⟨⟨?_, ?_⟩, Nat.zero_le _, Nat.zero_le _⟩
    · show (lpG (fu (sW x)) (sW x) [] []).1.1.length ≤ _
      simp only [List.length_nil, fu] at h ⊢
      omega
    · show (lpG (fu (sW x)) (sW x) [] []).1.2.length ≤ _
      simp only [List.length_nil, fu] at h ⊢
      omega
  have r : LsLe (x.1.length + 1) (evRul pOps k x).1 := by
    have h := lpR_len (fu x) x []
    refine ⟨⟨Nat.zero_le _, Nat.zero_le _⟩, ?_, Nat.zero_le _⟩
    show (lpR (fu x) x []).1.length ≤ _
    simp only [List.length_nil, fu] at h ⊢
    omega
  exact ls_c c (ls_c (z _ rfl rfl rfl rfl) (ls_c (z _ rfl rfl rfl rfl) (ls_c (z _ rfl rfl rfl rfl) (ls_c (z _ rfl rfl rfl rfl) (ls_c (z _ rfl rfl rfl rfl) (ls_c g (ls_c r (ls_c (z _ rfl rfl rfl rfl) (ls_c (z _ rfl rfl rfl rfl) (ls_c (z _ rfl rfl rfl rfl) (ls_c (z _ rfl rfl rfl rfl) (ls_c (z _ rfl rfl rfl rfl) (ls_c (z _ rfl rfl rfl rfl) (ls_c (z _ rfl rfl rfl rfl) (ls_c (z _ rfl rfl rfl rfl) (ls_c (z _ rfl rfl rfl rfl) (ls_c (z _ rfl rfl rfl rfl) (ls_c (z _ rfl rfl rfl rfl) (ls_c (z _ rfl rfl rfl rfl) (ls_c (z _ rfl rfl rfl rfl) (z _ rfl rfl rfl rfl)))))))))))))))))))))
theorem evL_ls (s : W) : LsLe (s.length + 1) (evL pOps s).1 := by
  have z : ∀ e : Ev, e.users = [] → e.groups = [] → e.rules = [] → e.writes = [] → LsLe (s.length + 1) e := fun e => lsLe_0 _ e
  unfold evL
  cases ct (upB s) == 0
  · show LsLe _ (fin3 (evG pOps (ct (upB s)) (s.drop (upB s).length, false))).1
    unfold fin3
    have h := evG_ls (ct (upB s)) (s.drop (upB s).length, false)
    have hl : (s.drop (upB s).length).length ≤ s.length := by rw [List.length_drop]; omega
    have h' : LsLe (s.length + 1) (evG pOps (ct (upB s)) (s.drop (upB s).length, false)).1 := by
      obtain ⟨⟨h1, h2⟩, h3, h4⟩ := h
      dsimp only at h1 h2 h3 h4
      exact ⟨⟨by omega, by omega⟩, by omega, by omega⟩
    cases ((evG pOps (ct (upB s)) (s.drop (upB s).length, false)).2.2 || !(evG pOps (ct (upB s)) (s.drop (upB s).length, false)).2.1.isEmpty)
    · exact h'
    · exact z _ rfl rfl rfl rfl
  · exact z _ rfl rfl rfl rfl
theorem smE_of {n : Nat} {e : Ev} (hn : n ≤ 1000000) (h : LsLe n e) : smE e = true := by
  obtain ⟨⟨h1, h2⟩, h3, h4⟩ := h
  unfold smE
  rw [sm_t (by omega), sm_t (by omega), sm_t (by omega), sm_t (by omega)]; rfl
theorem psR_all (f : W → Ev × Int) (P : Ev → Prop) : ∀ (ws : List W) (i : Nat) (acc : List Ev), (∀ w ∈ ws, (f w).2 = 0 → P (f w).1) → (∀ e ∈ acc, P e) → (∀ e ∈ (psR f ws i acc).l, P e) ∧ (psR f ws i acc).l.length ≤ acc.length + ws.length
  | [], i, acc, h, ha => ⟨ha, Nat.le_add_right _ _⟩
  | w :: ws, i, acc, h, ha => by
    have hw := fun w' hw' => h w' (List.mem_cons_of_mem _ hw')
    rw [psR_cons, List.length_cons]
    cases skp w
    · rw [cond_false]
      split
      · exact ⟨(fun e he => by cases he), Nat.zero_le _⟩
      · rename_i hx
        have hx : psE (f w) acc.length = 0 := Decidable.of_not_not hx
        have h2 : (f w).2 = 0 := by
          unfold psE at hx
          split at hx
          · cases hx
          · exact hx
        have := psR_all f P ws (i + 1) (acc ++ [(f w).1]) hw (fun e he => by
          rcases List.mem_append.1 he with he | he
          · exact ha e he
          · rw [List.mem_singleton.1 he]
            exact h w List.mem_cons_self h2)
        rw [List.length_append, List.length_singleton] at this
        exact ⟨this.1, by omega⟩
    · rw [cond_true]
      have := psR_all f P ws (i + 1) acc hw ha
      exact ⟨this.1, by omega⟩
theorem parP_all (s : W) (P : Ev → Prop) (h : ∀ w, w.length ≤ s.length → (evL pOps w).2 = 0 → P (evL pOps w).1) : (∀ e ∈ (parP s).l, P e) ∧ (parP s).l.length ≤ s.length + 1 := by
  unfold parP
  split
  · exact ⟨(fun e he => by cases he), Nat.zero_le _⟩
  · obtain ⟨h1, h2⟩ := spl_len 10 s
    have := psR_all (evL pOps) P (spl 10 s) 0 [] (fun w hw h0 => h w (h2 w hw) h0) (fun e he => by cases he)
    rw [List.length_nil] at this
    exact ⟨this.1, by omega⟩
theorem parP_sm (s : W) (hs : s.length ≤ 900000) : (parP s).l.all smE = true ∧ sm (parP s).l.length = true := by
  have := parP_all s (fun e => smE e = true) fun w hw _ => smE_of (by omega) (evL_ls w)
  exact ⟨List.all_eq_true.2 this.1, sm_t (by omega)⟩
def exE (k : Int) (r : W) (n : Int) : Ev := { ev0 k with repo := r, n := n }
theorem al_1 : isEs [[L.int IntKind.i64 22, L.str (mk [99, 111, 114, 101]), L.str (mk []), L.str (mk []), L.int IntKind.i64 0, L.int IntKind.i64 0, L.int IntKind.i64 0, L.int IntKind.i64 0, L.str (mk []), L.str (mk []), L.lst 3 [], L.lst 9 [], L.lst 65 [], L.lst 51 []], [L.int IntKind.i64 14, L.str (mk []), L.str (mk []), L.str (mk []), L.int IntKind.i64 0, L.int IntKind.i64 3, L.int IntKind.i64 0, L.int IntKind.i64 0, L.str (mk []), L.str (mk []), L.lst 3 [], L.lst 9 [], L.lst 65 [], L.lst 51 []]] = true := isEs_e [exE 22 [99, 111, 114, 101] 0, exE 14 [] 3]
theorem al_2 : isLs [] [] [] [[L.str (mk [97]), L.str (mk [120, 10]), L.bool false], [L.str (mk [98]), L.str (mk []), L.bool true]] = true := isLs_e [] [] [] [([97], [120, 10], false), ([98], [], true)]
theorem alive_holds : Holds k_alive := con_run (xs := [k_pparse, k_SameList, k_pline, k_preply]) (hold1 pparse_holds (hold1 sameList_holds (hold1 pline_holds (hold1 preply_holds hold0)))) fun aa hp r h => by
  split at h
  case h_2 => cases h
  obtain ⟨_, rfl⟩ := xo h
  refine Runs.by (alive_e ·) ?_
  rw [isEs_e, al_1, al_2]
  exact .ret
theorem parses_runs (s : W) : Runs (cfg [k_alive, k_pparse, k_rparse, k_SameList]) (.enter 3 [.lf (.str (mk s))] []) [.bool true] := by
  refine Runs.by (lParses_e · _) ?_
  rw [size_mk, bl_mk]
  by_cases hl : 2000 < s.length
  · rw [ev_lt_t (by omega)]
    exact .ret
  · obtain ⟨q1, q2⟩ := parP_sm s (by omega)
    rw [← parse_eq, ev_lt_f (by omega), sm_t (show s.length ≤ 1000000 by omega), eEs_len, q2, isEs_e, dEs_e, q1]
    simp only [beq_self_eq_true, cond_true, cond_false, Bool.and_self]
    exact .ret' (by simp)
end Go.Ab
namespace Go.Ab
open Go.Proofs
theorem m64y : IntKind.max IntKind.i64 = 9223372036854775807 := rfl
theorem len_tw {α : Type} (f : α → List W) (hf : ∀ x, f x ≠ []) : ∀ l : List α, l.length ≤ (tw (l.flatMap f)).length
  | [] => Nat.zero_le _
  | x :: l => by
    have := len_tw f hf l
    have hx := hf x
    rw [List.flatMap_cons, tw_app, List.length_append, List.length_cons]
    cases hfx : f x with
    | nil => exact absurd hfx hx
    | cons a b =>
      rw [tw_cons]
      simp only [List.length_append, List.length_cons]
      omega
theorem conE_ofR {ks : List (Nat × Con)} {n : Nat} {g : Ev → Bool} {f : Ev → List L} (hx : ∀ p ∈ ks, Holds p) (h : ∀ e : Ev, g e = true → Runs (cfgR ks) (.enter n [.agg (encE e)] []) (f e)) : Holds (n, conE g f) :=
  con_runR hx fun aa hp r h0 => by
    unfold conE at h0
    split at h0
    · obtain ⟨g0, rfl⟩ := xo h0
      rw [Bool.and_eq_true] at g0
      obtain ⟨a, b, c, d, rfl, rfl, rfl, rfl⟩ := isLs_of g0.1
      rw [dIs_e, dSs_e, dRs_e, dWs_e] at g0 ⊢
      exact h _ g0.2
    · cases h0
noncomputable abbrev crt : Cfg := cfgR [k_Num, k_rquote, k_rrules]
theorem rt10 (e : Ev) (hN : e.writes.length ≤ 1000000) : ∀ (m i : Nat) (acc : W), i + m = e.writes.length → (acc ++ tw ((e.writes.drop i).flatMap wW)).length ≤ 1000000 → Runs crt (rtail_q10 (encE e) (mk acc) (i : Nat)) [.str (mk (acc ++ tw ((e.writes.drop i).flatMap wW)))]
  | 0, i, acc, h, ha => by
    refine Runs.by (rtail_p10 · _ _ _) ?_
    rw [drop_end (l := e.writes) (by omega)]
    have hc : cX 13 (encE e) = eWs e.writes := rfl
    rw [hc, eWs_len]
    simp (disch := omega) only [ev_lt_f, cond_false, List.flatMap_nil, tw_nil, List.append_nil]
    exact .ret
  | m + 1, i, acc, h, ha => by
    have hi : i < e.writes.length := by omega
    have hc : cX 13 (encE e) = eWs e.writes := rfl
    refine Runs.by (rtail_p10 · _ _ _) ?_
    have hx : atL (eWs e.writes) (i : Int) = eW1 (e.writes.getD i ([], [], false)) := atL_map _ e.writes i _ hi
    rw [drop_at ([], [], false) hi, List.flatMap_cons, tw_app, ← List.append_assoc] at ha ⊢
    have ih := rt10 e hN m (i + 1) (acc ++ tw (wW (e.writes.getD i ([], [], false)))) (by omega) ha
    rw [hc, hx, eWs_len]
    generalize e.writes.getD i ([], [], false) = x at *
    obtain ⟨p, t, gone⟩ := x
    have c0 : cT 0 (eW1 (p, t, gone)) = mk p := rfl
    have c1 : cT 1 (eW1 (p, t, gone)) = mk t := rfl
    have c2 : cO 2 (eW1 (p, t, gone)) = gone := rfl
    rw [c0, c1, c2]
    cases gone
    · have e0 : wW (p, t, false) = [wPut, p, qt t] := rfl
      have hq := qt_len t
      rw [e0] at ha ih ⊢
      simp only [tw_cons, tw_nil, List.length_append, List.length_cons, List.length_nil, wPut] at ha
      have q1 := sm_t (show t.length ≤ 1000000 by omega)
      simp (disch := omega) only [mk_app, size_mk, bl_mk, m64y, q1, List.length_append, List.length_cons, List.length_nil, ev_lt_t, ev_le_t, Bool.and_self, cond_true, cond_false, w64, both_self]
      exact .go' (by simp only [tw_cons, tw_nil, wPut, List.append_nil, List.cons_append, List.nil_append, List.append_assoc]; rfl) ih
    · have e0 : wW (p, t, true) = [wDel, p] := rfl
      rw [e0] at ha ih ⊢
      simp only [tw_cons, tw_nil, List.length_append, List.length_cons, List.length_nil, wDel] at ha
      simp (disch := omega) only [mk_app, size_mk, m64y, List.length_append, List.length_cons, List.length_nil, ev_lt_t, ev_le_t, Bool.and_self, cond_true, cond_false, w64]
      exact .go' (by simp only [tw_cons, tw_nil, wDel, List.append_nil, List.cons_append, List.nil_append, List.append_assoc]; rfl) ih
theorem rt30 (e : Ev) (hN : e.groups.length ≤ 1000000) : ∀ (m i : Nat) (acc : W), i + m = e.groups.length → (acc ++ tw ((e.groups.drop i).flatMap fun g => [wGroup, g])).length ≤ 1000000 → Runs crt (rtail_q30 (encE e) (mk acc) (i : Nat)) [.str (mk (acc ++ tw ((e.groups.drop i).flatMap fun g => [wGroup, g])))]
  | 0, i, acc, h, ha => by
    refine Runs.by (rtail_p30 · _ _ _) ?_
    rw [drop_end (l := e.groups) (by omega)]
    have hc : cX 11 (encE e) = eSs e.groups := rfl
    rw [hc, eSs_len]
    simp (disch := omega) only [ev_lt_f, cond_false, List.flatMap_nil, tw_nil, List.append_nil]
    exact .ret
  | m + 1, i, acc, h, ha => by
    have hi : i < e.groups.length := by omega
    have hc : cX 11 (encE e) = eSs e.groups := rfl
    refine Runs.by (rtail_p30 · _ _ _) ?_
    have hx : atL (eSs e.groups) (i : Int) = eS1 (e.groups.getD i []) := atL_map _ e.groups i _ hi
    rw [drop_at [] hi, List.flatMap_cons, tw_app, ← List.append_assoc] at ha ⊢
    have ih := rt30 e hN m (i + 1) (acc ++ tw [wGroup, e.groups.getD i []]) (by omega) ha
    rw [hc, hx, eSs_len]
    generalize e.groups.getD i [] = x at *
    have c0 : cT 0 (eS1 x) = mk x := rfl
    rw [c0]
    simp only [tw_cons, tw_nil, List.length_append, List.length_cons, List.length_nil, wGroup] at ha
    simp (disch := omega) only [mk_app, size_mk, m64y, List.length_append, List.length_cons, List.length_nil, ev_lt_t, ev_le_t, Bool.and_self, cond_true, w64]
    exact .go' (by simp only [tw_cons, tw_nil, wGroup, List.append_nil, List.cons_append, List.nil_append, List.append_assoc]; rfl) ih
theorem rt26 (e : Ev) (hu : e.users.all i64B = true) (hN : e.users.length ≤ 1000000) (hM : e.groups.length ≤ 1000000) : ∀ (m i : Nat) (acc : W), i + m = e.users.length → (acc ++ tw ((e.users.drop i).flatMap (fun u => [wUser, it u]) ++ e.groups.flatMap fun g => [wGroup, g])).length ≤ 1000000 → Runs crt (rtail_q26 (encE e) (mk acc) (i : Nat)) [.str (mk (acc ++ tw ((e.users.drop i).flatMap (fun u => [wUser, it u]) ++ e.groups.flatMap fun g => [wGroup, g])))]
  | 0, i, acc, h, ha => by
    refine Runs.by (rtail_p26 · _ _ _) ?_
    have hc : cX 10 (encE e) = eIs e.users := rfl
    rw [drop_end (l := e.users) (by omega)] at ha ⊢
    have := rt30 e hM e.groups.length 0 acc (Nat.zero_add _)
    rw [List.drop_zero] at this
    rw [hc, eIs_len]
    simp (disch := omega) only [ev_lt_f, cond_false, List.flatMap_nil, List.nil_append] at ha ⊢
    exact .go (this ha)
  | m + 1, i, acc, h, ha => by
    have hi : i < e.users.length := by omega
    have hc : cX 10 (encE e) = eIs e.users := rfl
    refine Runs.by (rtail_p26 · _ _ _) ?_
    have hx : atL (eIs e.users) (i : Int) = eI1 (e.users.getD i 0) := atL_map _ e.users i _ hi
    rw [drop_at 0 hi, List.flatMap_cons, List.append_assoc, tw_app, ← List.append_assoc] at ha ⊢
    have ih := rt26 e hu hN hM m (i + 1) (acc ++ tw [wUser, it (e.users.getD i 0)]) (by omega) ha
    have g0 : i64B (e.users.getD i 0) = true := List.all_eq_true.1 hu _ (by simp [List.getD, List.getElem?_eq_getElem hi])
    rw [hc, hx, eIs_len]
    generalize e.users.getD i 0 = x at *
    have c0 : cI 0 (eI1 x) = x := rfl
    rw [c0, g0]
    generalize it x = y at *
    simp only [tw_cons, tw_nil, List.length_append, List.length_cons, List.length_nil, wUser] at ha
    simp (disch := omega) only [mk_app, size_mk, m64y, List.length_append, List.length_cons, List.length_nil, ev_lt_t, ev_le_t, Bool.and_self, cond_true, w64]
    exact .go' (by simp only [tw_cons, tw_nil, wUser, List.append_nil, List.cons_append, List.nil_append, List.append_assoc]; rfl) ih
set_option maxHeartbeats 2000000 in
theorem rtail_sw (e : Ev) (iu : e.users.all i64B = true) (hg : (tw (tlw e)).length ≤ 1000000) (b4 : (it e.who).length ≤ 21) (b5 : (it e.n).length ≤ 21) (b6 : (it e.m).length ≤ 21) (b7 : (it e.k).length ≤ 21) : Runs crt (rtail_q2 (encE e) (mk (32 :: it e.n)) (mk (32 :: it e.m)) (mk (32 :: it e.k)) (mk (32 :: it e.who))) [.str (mk (tw (tlw e)))] := by
  refine Runs.by (rtail_p2 · _ _ _ _ _) ?_
  have c0 : cI 0 (encE e) = e.kind := rfl
  have c1 : cT 1 (encE e) = mk e.repo := rfl
  have c2 : cT 2 (encE e) = mk e.name := rfl
  have c3 : cT 3 (encE e) = mk e.other := rfl
  have c8 : cT 8 (encE e) = mk e.text := rfl
  have c9 : cT 9 (encE e) = mk e.gname := rfl
  have c12 : cX 12 (encE e) = eRs e.rules := rfl
  rw [c0, c1, c2, c3, c8, c9, c12]
  refine RunsF.cond (fun hk => ?_) (fun hk0 => ?_)
  · have hk := eqk hk
    have ht : tlw e = [e.repo] := by unfold tlw; rw [hk]; rfl
    rw [ht] at hg ⊢
    simp only [tw_cons, tw_nil, List.length_append, List.length_cons, List.length_nil] at hg
    try simp (disch := omega) only [mk_app, size_mk, bl_mk, m64y, List.length_append, List.length_cons, List.length_nil, ev_le_t, cond_true]
    exact .ret' (by simp only [tw_cons, tw_nil, List.append_nil, List.cons_append, List.nil_append, List.append_assoc])
  refine RunsF.cond (fun hk => ?_) (fun hk1 => ?_)
  · have hk := eqk hk
    have ht : tlw e = [e.repo] := by unfold tlw; rw [hk]; rfl
    rw [ht] at hg ⊢
    simp only [tw_cons, tw_nil, List.length_append, List.length_cons, List.length_nil] at hg
    try simp (disch := omega) only [mk_app, size_mk, bl_mk, m64y, List.length_append, List.length_cons, List.length_nil, ev_le_t, cond_true]
    exact .ret' (by simp only [tw_cons, tw_nil, List.append_nil, List.cons_append, List.nil_append, List.append_assoc])
  refine RunsF.cond (fun hk => ?_) (fun hk2 => ?_)
  · have hk := eqk hk
    have ht : tlw e = [e.repo] := by unfold tlw; rw [hk]; rfl
    rw [ht] at hg ⊢
    simp only [tw_cons, tw_nil, List.length_append, List.length_cons, List.length_nil] at hg
    try simp (disch := omega) only [mk_app, size_mk, bl_mk, m64y, List.length_append, List.length_cons, List.length_nil, ev_le_t, cond_true]
    exact .ret' (by simp only [tw_cons, tw_nil, List.append_nil, List.cons_append, List.nil_append, List.append_assoc])
  refine RunsF.cond (fun hk => ?_) (fun hk3 => ?_)
  · have hk := eqk hk
    have ht : tlw e = [e.repo, e.name, it e.who] ++ e.writes.flatMap wW := by unfold tlw; rw [hk]; show lsw e = _; unfold lsw; rw [hk]; rfl
    have hN := len_tw wW (fun x => by unfold wW; cases x.2.2 <;> simp) e.writes
    have hN : e.writes.length ≤ 1000000 := by rw [ht, tw_app, List.length_append] at hg; omega
    have lp := rt10 e hN e.writes.length 0 (32 :: e.repo ++ 32 :: e.name ++ 32 :: it e.who) (Nat.zero_add _)
    rw [List.drop_zero] at lp
    have e0 : 32 :: e.repo ++ 32 :: e.name ++ 32 :: it e.who ++ tw (e.writes.flatMap wW) = tw (tlw e) := by rw [ht]; simp only [tw_cons, tw_nil, List.append_nil, List.cons_append, List.nil_append, List.append_assoc]
    rw [e0] at lp
    have lp := lp hg
    rw [ht] at hg
    simp only [tw_cons, tw_nil, List.length_append, List.length_cons, List.length_nil, List.cons_append, List.nil_append] at hg
    simp (disch := omega) only [mk_app, size_mk, bl_mk, m64y, List.length_append, List.length_cons, List.length_nil, ev_le_t, cond_true]
    exact .go' (by simp only [List.cons_append, List.nil_append, List.append_assoc]; rfl) lp
  refine RunsF.cond (fun hk => ?_) (fun hk4 => ?_)
  · have hk := eqk hk
    have ht : tlw e = [e.repo, e.name, e.other] := by unfold tlw; rw [hk]; rfl
    rw [ht] at hg ⊢
    simp only [tw_cons, tw_nil, List.length_append, List.length_cons, List.length_nil] at hg
    try simp (disch := omega) only [mk_app, size_mk, bl_mk, m64y, List.length_append, List.length_cons, List.length_nil, ev_le_t, cond_true]
    exact .ret' (by simp only [tw_cons, tw_nil, List.append_nil, List.cons_append, List.nil_append, List.append_assoc])
  refine RunsF.cond (fun hk => ?_) (fun hk5 => ?_)
  · have hk := eqk hk
    have ht : tlw e = [e.repo, e.name, e.other, it e.who] := by unfold tlw; rw [hk]; rfl
    rw [ht] at hg ⊢
    simp only [tw_cons, tw_nil, List.length_append, List.length_cons, List.length_nil] at hg
    try simp (disch := omega) only [mk_app, size_mk, bl_mk, m64y, List.length_append, List.length_cons, List.length_nil, ev_le_t, cond_true]
    exact .ret' (by simp only [tw_cons, tw_nil, List.append_nil, List.cons_append, List.nil_append, List.append_assoc])
  refine RunsF.cond (fun hk => ?_) (fun hk6 => ?_)
  · have hk := eqk hk
    have ht : tlw e = [e.repo, e.name] := by unfold tlw; rw [hk]; rfl
    rw [ht] at hg ⊢
    simp only [tw_cons, tw_nil, List.length_append, List.length_cons, List.length_nil] at hg
    try simp (disch := omega) only [mk_app, size_mk, bl_mk, m64y, List.length_append, List.length_cons, List.length_nil, ev_le_t, cond_true]
    exact .ret' (by simp only [tw_cons, tw_nil, List.append_nil, List.cons_append, List.nil_append, List.append_assoc])
  refine RunsF.cond (fun hk => ?_) (fun hk7 => ?_)
  · have hk := eqk hk
    have ht : tlw e = e.gname :: (e.users.flatMap (fun u => [wUser, it u]) ++ e.groups.flatMap fun g => [wGroup, g]) := by unfold tlw; rw [hk]; show lsw e = _; unfold lsw; rw [hk]; rfl
    have hN := len_tw (fun u => [wUser, it u]) (fun x => by simp) e.users
    have hM := len_tw (fun g => [wGroup, g]) (fun x => by simp) e.groups
    have hg2 := hg
    rw [ht, tw_cons, tw_app] at hg2
    simp only [List.length_append, List.length_cons] at hg2
    have hN : e.users.length ≤ 1000000 := by omega
    have hM : e.groups.length ≤ 1000000 := by omega
    have lp := rt26 e iu hN hM e.users.length 0 (32 :: e.gname) (Nat.zero_add _)
    rw [List.drop_zero] at lp
    have e0 : 32 :: e.gname ++ tw (e.users.flatMap (fun u => [wUser, it u]) ++ e.groups.flatMap fun g => [wGroup, g]) = tw (tlw e) := by rw [ht, tw_cons]; rfl
    rw [e0] at lp
    have lp := lp hg
    rw [ht] at hg
    simp only [tw_cons, List.length_append, List.length_cons] at hg
    simp (disch := omega) only [mk_app, size_mk, bl_mk, m64y, List.length_append, List.length_cons, List.length_nil, ev_le_t, cond_true]
    exact .go lp
  refine RunsF.cond (fun hk => ?_) (fun hk8 => ?_)
  · have hk := eqk hk
    have ht : tlw e = e.rules.flatMap wR := by unfold tlw; rw [hk]; show lsw e = _; unfold lsw; rw [hk]; rfl
    rw [ht] at hg ⊢
    rw [show isLs [] [] (eRs e.rules) [] = true from isLs_e [] [] e.rules [], dRs_e, sm_t hg]
    exact .ret
  refine RunsF.cond (fun hk => ?_) (fun hk9 => ?_)
  · have hk := eqk hk
    have ht : tlw e = [it e.who, qt e.text, it e.n, it e.m, it e.k] := by unfold tlw; rw [hk]; rfl
    rw [ht] at hg ⊢
    simp only [tw_cons, tw_nil, List.length_append, List.length_cons, List.length_nil] at hg
    have hq := qt_len e.text
    have q1 := sm_t (show e.text.length ≤ 1000000 by omega)
    try simp (disch := omega) only [mk_app, size_mk, bl_mk, m64y, List.length_append, List.length_cons, List.length_nil, ev_le_t, cond_true, q1]
    exact .ret' (by simp only [tw_cons, tw_nil, List.append_nil, List.cons_append, List.nil_append, List.append_assoc])
  refine RunsF.cond (fun hk => ?_) (fun hk10 => ?_)
  · have hk := eqk hk
    have ht : tlw e = [it e.who, qt e.text] := by unfold tlw; rw [hk]; rfl
    rw [ht] at hg ⊢
    simp only [tw_cons, tw_nil, List.length_append, List.length_cons, List.length_nil] at hg
    have hq := qt_len e.text
    have q1 := sm_t (show e.text.length ≤ 1000000 by omega)
    try simp (disch := omega) only [mk_app, size_mk, bl_mk, m64y, List.length_append, List.length_cons, List.length_nil, ev_le_t, cond_true, q1]
    exact .ret' (by simp only [tw_cons, tw_nil, List.append_nil, List.cons_append, List.nil_append, List.append_assoc])
  refine RunsF.cond (fun hk => ?_) (fun hk11 => ?_)
  · have hk := eqk hk
    have ht : tlw e = [it e.who, it e.n, it e.k] := by unfold tlw; rw [hk]; rfl
    rw [ht] at hg ⊢
    simp only [tw_cons, tw_nil, List.length_append, List.length_cons, List.length_nil] at hg
    try simp (disch := omega) only [mk_app, size_mk, bl_mk, m64y, List.length_append, List.length_cons, List.length_nil, ev_le_t, cond_true]
    exact .ret' (by simp only [tw_cons, tw_nil, List.append_nil, List.cons_append, List.nil_append, List.append_assoc])
  refine RunsF.cond (fun hk => ?_) (fun hk12 => ?_)
  · have hk := eqk hk
    have ht : tlw e = [it e.n] := by unfold tlw; rw [hk]; rfl
    rw [ht] at hg ⊢
    simp only [tw_cons, tw_nil, List.length_append, List.length_cons, List.length_nil] at hg
    try simp (disch := omega) only [mk_app, size_mk, bl_mk, m64y, List.length_append, List.length_cons, List.length_nil, ev_le_t, cond_true]
    exact .ret' (by simp only [tw_cons, tw_nil, List.append_nil, List.cons_append, List.nil_append, List.append_assoc])
  refine RunsF.cond (fun hk => ?_) (fun hk13 => ?_)
  · have hk := eqk hk
    have ht : tlw e = [it e.n] := by unfold tlw; rw [hk]; rfl
    rw [ht] at hg ⊢
    simp only [tw_cons, tw_nil, List.length_append, List.length_cons, List.length_nil] at hg
    try simp (disch := omega) only [mk_app, size_mk, bl_mk, m64y, List.length_append, List.length_cons, List.length_nil, ev_le_t, cond_true]
    exact .ret' (by simp only [tw_cons, tw_nil, List.append_nil, List.cons_append, List.nil_append, List.append_assoc])
  refine RunsF.cond (fun hk => ?_) (fun hk14 => ?_)
  · have hk := eqk hk
    have ht : tlw e = [it e.n] := by unfold tlw; rw [hk]; rfl
    rw [ht] at hg ⊢
    simp only [tw_cons, tw_nil, List.length_append, List.length_cons, List.length_nil] at hg
    try simp (disch := omega) only [mk_app, size_mk, bl_mk, m64y, List.length_append, List.length_cons, List.length_nil, ev_le_t, cond_true]
    exact .ret' (by simp only [tw_cons, tw_nil, List.append_nil, List.cons_append, List.nil_append, List.append_assoc])
  refine RunsF.cond (fun hk => ?_) (fun hk15 => ?_)
  · have hk := eqk hk
    have ht : tlw e = [it e.n, it e.m] := by unfold tlw; rw [hk]; rfl
    rw [ht] at hg ⊢
    simp only [tw_cons, tw_nil, List.length_append, List.length_cons, List.length_nil] at hg
    try simp (disch := omega) only [mk_app, size_mk, bl_mk, m64y, List.length_append, List.length_cons, List.length_nil, ev_le_t, cond_true]
    exact .ret' (by simp only [tw_cons, tw_nil, List.append_nil, List.cons_append, List.nil_append, List.append_assoc])
  refine RunsF.cond (fun hk => ?_) (fun hk16 => ?_)
  · have hk := eqk hk
    have ht : tlw e = [it e.n, it e.m] := by unfold tlw; rw [hk]; rfl
    rw [ht] at hg ⊢
    simp only [tw_cons, tw_nil, List.length_append, List.length_cons, List.length_nil] at hg
    try simp (disch := omega) only [mk_app, size_mk, bl_mk, m64y, List.length_append, List.length_cons, List.length_nil, ev_le_t, cond_true]
    exact .ret' (by simp only [tw_cons, tw_nil, List.append_nil, List.cons_append, List.nil_append, List.append_assoc])
  refine RunsF.cond (fun hk => ?_) (fun hk17 => ?_)
  · have hk := eqk hk
    have ht : tlw e = [it e.n, it e.m] := by unfold tlw; rw [hk]; rfl
    rw [ht] at hg ⊢
    simp only [tw_cons, tw_nil, List.length_append, List.length_cons, List.length_nil] at hg
    try simp (disch := omega) only [mk_app, size_mk, bl_mk, m64y, List.length_append, List.length_cons, List.length_nil, ev_le_t, cond_true]
    exact .ret' (by simp only [tw_cons, tw_nil, List.append_nil, List.cons_append, List.nil_append, List.append_assoc])
  refine RunsF.cond (fun hk => ?_) (fun hk18 => ?_)
  · have hk := eqk hk
    have ht : tlw e = [it e.n, it e.m, it e.k] := by unfold tlw; rw [hk]; rfl
    rw [ht] at hg ⊢
    simp only [tw_cons, tw_nil, List.length_append, List.length_cons, List.length_nil] at hg
    try simp (disch := omega) only [mk_app, size_mk, bl_mk, m64y, List.length_append, List.length_cons, List.length_nil, ev_le_t, cond_true]
    exact .ret' (by simp only [tw_cons, tw_nil, List.append_nil, List.cons_append, List.nil_append, List.append_assoc])
  refine RunsF.cond (fun hk => ?_) (fun hk19 => ?_)
  · have hk := eqk hk
    have ht : tlw e = [it e.n, it e.m, it e.k] := by unfold tlw; rw [hk]; rfl
    rw [ht] at hg ⊢
    simp only [tw_cons, tw_nil, List.length_append, List.length_cons, List.length_nil] at hg
    try simp (disch := omega) only [mk_app, size_mk, bl_mk, m64y, List.length_append, List.length_cons, List.length_nil, ev_le_t, cond_true]
    exact .ret' (by simp only [tw_cons, tw_nil, List.append_nil, List.cons_append, List.nil_append, List.append_assoc])
  refine RunsF.cond (fun hk => ?_) (fun hk20 => ?_)
  · have hk := eqk hk
    have ht : tlw e = [it e.who, e.repo, e.name, qt e.text, qt e.other] := by unfold tlw; rw [hk]; rfl
    rw [ht] at hg ⊢
    simp only [tw_cons, tw_nil, List.length_append, List.length_cons, List.length_nil] at hg
    have hq := qt_len e.text
    have q1 := sm_t (show e.text.length ≤ 1000000 by omega)
    have hq2 := qt_len e.other
    have q2 := sm_t (show e.other.length ≤ 1000000 by omega)
    try simp (disch := omega) only [mk_app, size_mk, bl_mk, m64y, List.length_append, List.length_cons, List.length_nil, ev_le_t, cond_true, q1, q2]
    exact .ret' (by simp only [tw_cons, tw_nil, List.append_nil, List.cons_append, List.nil_append, List.append_assoc])
  have ht : tlw e = [] := by
    unfold tlw
    simp only [hk0, hk1, hk2, hk3, hk4, hk5, hk6, hk7, hk8, hk9, hk10, hk11, hk12, hk13, hk14, hk15, hk16, hk17, hk18, hk19, hk20, cond_false]
  rw [ht]
  exact .ret
theorem tail_holds : Holds k_tail := conE_ofR (ks := [k_Num, k_rquote, k_rrules]) (hold1 Num_holds (hold1 rquote_holds (hold1 rrules_holds hold0))) fun e g => by
  simp only [Bool.and_eq_true] at g
  obtain ⟨⟨gk, gI⟩, gs⟩ := g
  unfold okI at gI
  simp only [Bool.and_eq_true] at gI
  obtain ⟨⟨i4, i5, i6, i7⟩, iu⟩ := gI
  have b4 := it_len i4
  have b5 := it_len i5
  have b6 := it_len i6
  have b7 := it_len i7
  refine Runs.by (rtail_e · _ _ _ _ _ _ _ _ _ _ _ _ _ _) ?_
  rw [i4, i5, i6, i7]
  simp (disch := omega) only [mk_app, size_mk, m64y, ev_le_t, cond_true]
  exact .go (rtail_sw e iu (sm_of gs) b4 b5 b6 b7)
end Go.Ab
namespace Go.Ab
open Go.Proofs
theorem evA_sm (s : W) (h : s.length ≤ 900000) : smE (evL aOps s).1 = true := by
  rw [← evL_eq]
  exact smE_of (n := s.length + 1) (by omega) (evL_ls s)
theorem evX (e : Ev) : (Ev.mk e.kind (bl (mk e.repo)) (bl (mk e.name)) (bl (mk e.other)) e.who e.n e.m e.k (bl (mk e.text)) (bl (mk e.gname)) (dIs (eIs e.users)) (dSs (eSs e.groups)) (dRs (eRs e.rules)) (dWs (eWs e.writes))) = e := by
  rw [dIs_e, dSs_e, dRs_e, dWs_e]
set_option maxHeartbeats 1000000 in
theorem rline_holds : Holds k_rline := conE_of (ks := [k_name, k_tail, k_read, k_rsame]) (hold1 name_holds (hold1 tail_holds (hold1 read_holds (hold1 rsame_holds hold0)))) fun e g => by
  unfold gRl at g
  simp only [Bool.and_eq_true] at g
  obtain ⟨gk, gI, gl⟩ := g
  have gl := Nat.le_of_ble_eq_true gl
  refine Runs.by (rline_e · _ _ _ _ _ _ _ _ _ _ _ _ _ _) ?_
  have hr : mk (nmOf e.kind) ++ mk (tw (tlw e)) = mk (rln e) := by rw [mk_app]; rfl
  have hl : (rln e).length = (nmOf e.kind).length + (tw (tlw e)).length := by unfold rln; rw [List.length_append]
  have i1 : isLs (eIs e.users) (eSs e.groups) (eRs e.rules) (eWs e.writes) = true := isLs_e _ _ _ _
  have sR := evA_sm (rln e) gl
  rw [evX, hr, i1, gk, gI, sm_t (show (tw (tlw e)).length ≤ 1000000 by omega)]
  have q1 : leI (((mk (nmOf e.kind)).size + (mk (tw (tlw e))).size : Nat) : Int) (IntKind.max IntKind.i64) = true := by rw [size_mk, size_mk, m64y]; exact ev_le_t (by omega)
  rw [q1, size_mk, sm_t (show (rln e).length ≤ 1000000 by omega)]
  unfold rlnR
  rw [show bl (mk (rln e)) = rln e from bl_mk _, show bl (mk (nmOf e.kind)) = nmOf e.kind from bl_mk _, show bl (mk []) = [] from bl_mk _]
  generalize evL aOps (rln e) = R at *
  rw [evX R.1, show isLs (eIs R.1.users) (eSs R.1.groups) (eRs R.1.rules) (eWs R.1.writes) = true from isLs_e _ _ _ _, sR]
  by_cases hn : nmOf e.kind = []
  · rw [if_pos hn, hn]
    exact .ret
  rw [if_neg hn, show (nmOf e.kind == ([] : W)) = false by simpa using hn]
  simp only [cond_true, cond_false, Bool.and_self, dupN_eq, both_self]
  by_cases h2 : R.2 = 0
  · rw [show (R.2 != 0) = false by simpa using h2]
    by_cases h3 : e = R.1
    · rw [decide_eq_true h3]
      by_cases h4 : 8000 < (rln e).length
      · rw [ev_lt_t (by omega), if_pos (.inr (.inr h4))]
        exact .ret
      · rw [ev_lt_f (by omega), if_neg (fun h => h.elim (fun h => h h2) fun h => h.elim (fun h => h h3) h4)]
        exact .ret
    · rw [decide_eq_false h3, if_pos (.inr (.inl h3))]
      exact .ret
  · rw [show (R.2 != 0) = true by simpa using h2, if_pos (.inl h2)]
    exact .ret
theorem hdE (e : Ev) : Ev.mk (cI 0 (encE e)) (bl (cT 1 (encE e))) (bl (cT 2 (encE e))) (bl (cT 3 (encE e))) (cI 4 (encE e)) (cI 5 (encE e)) (cI 6 (encE e)) (cI 7 (encE e)) (bl (cT 8 (encE e))) (bl (cT 9 (encE e))) (dIs (cX 10 (encE e))) (dSs (cX 11 (encE e))) (dRs (cX 12 (encE e))) (dWs (cX 13 (encE e))) = e := dE1_e e
theorem lnR_len (e : Ev) (g : gLn e = true) : (lnR e).1.length ≤ 900000 := by
  unfold gLn at g
  simp only [Bool.and_eq_true] at g
  have := Nat.le_of_ble_eq_true g.2.1
  unfold lnR
  split
  · exact Nat.zero_le _
  · exact this
theorem rlnR_len (e : Ev) (g : gRl e = true) : (rlnR e).1.length ≤ 900000 := by
  unfold gRl at g
  simp only [Bool.and_eq_true] at g
  have := Nat.le_of_ble_eq_true g.2.2
  unfold rlnR
  split
  · exact Nat.zero_le _
  split
  · exact Nat.zero_le _
  · exact this
theorem prR_cons (f : Ev → W × Int) (e : Ev) (l : List Ev) (acc : W) : prR f (e :: l) acc = if (f e).2 ≠ 0 then ([], (f e).2) else prR f l (acc ++ ((f e).1 ++ [10])) := rfl
noncomputable abbrev cpp : Cfg := cfg [k_pline, k_ws, k_bs]
theorem pprint_loop (l : List Ev) (hl : l.length ≤ 10000) (hg : ∀ e ∈ l, gLn e = true) : ∀ (m i : Nat) (acc : W), i + m = l.length → acc.length ≤ 1000000 * i → Runs cpp (pprint_q3 (eEs l) (l.length : Int) (i : Nat) (eB acc)) [.str (mk (prR lnR (l.drop i) acc).1), .int .i64 (prR lnR (l.drop i) acc).2]
  | 0, i, acc, h, ha => by
    refine Runs.by (pprint_p3 · _ _ _ _) ?_
    rw [drop_end (l := l) (by omega), ev_lt_f (by omega)]
    simp only [cond_false]
    rw [isBy_e, eB_len, dB_e, nb (show acc.length ≤ 100000000000 by omega)]
    exact .ret
  | m + 1, i, acc, h, ha => by
    have hi : i < l.length := by omega
    have hm : l.getD i evD ∈ l := by simp [List.getD, List.getElem?_eq_getElem hi]
    have g := hg _ hm
    have hlen := lnR_len _ g
    have ih := pprint_loop l hl hg m (i + 1) (acc ++ ((lnR (l.getD i evD)).1 ++ [10])) (by omega) (by simp only [List.length_append, List.length_singleton]; omega)
    refine Runs.by (pprint_p3 · _ _ _ _) ?_
    have hx : atL (eEs l) (i : Int) = encE (l.getD i evD) := atL_map _ l i evD hi
    rw [drop_at evD hi, prR_cons, hx, eEs_len]
    generalize l.getD i evD = e at *
    have i1 : isLs (cX 10 (encE e)) (cX 11 (encE e)) (cX 12 (encE e)) (cX 13 (encE e)) = true := isLs_e e.users e.groups e.rules e.writes
    rw [hdE e, i1, g, ev_lt_t (by omega), ev_le_t (by omega), mk_app, size_mk, size_mk, m64y, ev_le_t (by omega), isBy_e, eB_len, List.length_append, List.length_singleton, nb (show acc.length + ((lnR e).1.length + 1) ≤ 100000000000 by omega)]
    simp only [Bool.and_self, cond_true]
    by_cases h2 : (lnR e).2 = 0
    · rw [show ((lnR e).2 != 0) = false by simpa using h2, if_neg (fun h => h h2)]
      refine .go' ?_ ih
      rw [w64 (by omega) (by omega), bytesOf_e, bl_mk, eB_app]; rfl
    · rw [show ((lnR e).2 != 0) = true by simpa using h2, if_pos h2]
      exact .ret
theorem pprint_holds : Holds k_pprint := con_run (xs := [k_pline, k_ws, k_bs]) (hold1 pline_holds (hold1 ws_holds (hold1 bs_holds hold0))) fun aa hp r h => by
  split at h
  case h_2 => cases h
  rename_i xs
  obtain ⟨g, rfl⟩ := xo h
  simp only [Bool.and_eq_true] at g
  obtain ⟨g1, g2, g3⟩ := g
  obtain ⟨xs, rfl⟩ := isEs_of g1
  rw [eEs_len] at g2
  rw [dEs_e] at g3 ⊢
  refine Runs.by (pprint_e · _) ?_
  rw [eEs_len]
  have := pprint_loop xs (Nat.le_of_ble_eq_true g2) (List.all_eq_true.1 g3) xs.length 0 [] (Nat.zero_add _) (Nat.zero_le _)
  rw [List.drop_zero] at this
  exact .go this
noncomputable abbrev crp : Cfg := cfg [k_rline]
theorem rprint_loop (l : List Ev) (hl : l.length ≤ 10000) (hg : ∀ e ∈ l, gRl e = true) : ∀ (m i : Nat) (acc : W), i + m = l.length → acc.length ≤ 1000000 * i → Runs crp (rprint_q3 (eEs l) (mk acc) (i : Nat)) [.str (mk (prR rlnR (l.drop i) acc).1), .int .i64 (prR rlnR (l.drop i) acc).2]
  | 0, i, acc, h, ha => by
    refine Runs.by (rprint_p3 · _ _ _) ?_
    rw [drop_end (l := l) (by omega), eEs_len, ev_lt_f (by omega)]
    exact .ret
  | m + 1, i, acc, h, ha => by
    have hi : i < l.length := by omega
    have hm : l.getD i evD ∈ l := by simp [List.getD, List.getElem?_eq_getElem hi]
    have g := hg _ hm
    have hlen := rlnR_len _ g
    have ih := rprint_loop l hl hg m (i + 1) (acc ++ ((rlnR (l.getD i evD)).1 ++ [10])) (by omega) (by simp only [List.length_append, List.length_singleton]; omega)
    refine Runs.by (rprint_p3 · _ _ _) ?_
    have hx : atL (eEs l) (i : Int) = encE (l.getD i evD) := atL_map _ l i evD hi
    rw [drop_at evD hi, prR_cons, hx, eEs_len]
    generalize l.getD i evD = e at *
    have i1 : isLs (cX 10 (encE e)) (cX 11 (encE e)) (cX 12 (encE e)) (cX 13 (encE e)) = true := isLs_e e.users e.groups e.rules e.writes
    rw [hdE e, i1, g, ev_lt_t (by omega), ev_le_t (by omega), mk_app, mk_app, size_mk, size_mk, size_mk, m64y, ev_le_t (by omega), List.length_append, List.length_singleton, ev_le_t (by omega)]
    simp only [Bool.and_self, cond_true]
    by_cases h2 : (rlnR e).2 = 0
    · rw [show ((rlnR e).2 != 0) = false by simpa using h2, if_neg (fun h => h h2)]
      refine .go' ?_ ih
      rw [w64 (by omega) (by omega)]; rfl
    · rw [show ((rlnR e).2 != 0) = true by simpa using h2, if_pos h2]
      exact .ret
theorem rprint_holds : Holds k_rprint := con_run (xs := [k_rline]) (hold1 rline_holds hold0) fun aa hp r h => by
  split at h
  case h_2 => cases h
  rename_i xs
  obtain ⟨g, rfl⟩ := xo h
  simp only [Bool.and_eq_true] at g
  obtain ⟨g1, g2, g3⟩ := g
  obtain ⟨xs, rfl⟩ := isEs_of g1
  rw [eEs_len] at g2
  rw [dEs_e] at g3 ⊢
  refine Runs.by (rprint_e · _) ?_
  have := rprint_loop xs (Nat.le_of_ble_eq_true g2) (List.all_eq_true.1 g3) xs.length 0 [] (Nat.zero_add _) (Nat.zero_le _)
  rw [List.drop_zero] at this
  exact .go this
end Go.Ab
namespace Go.Ab
open Go.Proofs
noncomputable abbrev csm : Cfg := cfg []
theorem RunsF.chk {C : Cfg} {F : (Req → R) → R} {b r : Bool} (h : b = true → RunsF C F [L.bool r]) : RunsF C (fun G => _root_.cond (!b) (some [L.bool false]) (F G)) [L.bool (b && r)] := by
  cases b
  · exact .ret
  · exact h rfl
theorem lt200 (w : W) : ltI 200 ((mk w).size : Int) = !le2 w := by
  rw [size_mk]
  unfold le2
  by_cases h : w.length ≤ 200
  · rw [nb h, ev_lt_f (by omega)]; rfl
  · rw [ev_lt_t (by omega)]
    cases hb : Nat.ble w.length 200
    · rfl
    · exact absurd (Nat.le_of_ble_eq_true hb) h
theorem lt6 (n : Nat) : ltI 6 (n : Int) = !Nat.ble n 6 := by
  by_cases h : n ≤ 6
  · rw [nb h, ev_lt_f (by omega)]; rfl
  · rw [ev_lt_t (by omega)]
    cases hb : Nat.ble n 6
    · rfl
    · exact absurd (Nat.le_of_ble_eq_true hb) h
section
variable (l : List Ev) (i : Nat) (k : Int) (a1 a2 a3 : ByteArray) (a4 a5 a6 a7 : Int) (a8 a9 : ByteArray) (us gs rs ws : List (List L))
theorem sq20 (gL : List W) (hN : gL.length ≤ 6) (hi : i < 10) (R : Bool) (hR : Runs csm (small_q4 (eEs l) ((i + 1 : Nat) : Int)) [.bool R]) : ∀ (m j : Nat), j + m = gL.length → Runs csm (small_q20 (eEs l) (i : Nat) (j : Nat) k a1 a2 a3 a4 a5 a6 a7 a8 a9 us (eSs gL) rs ws) [.bool ((gL.drop j).all le2 && R)]
  | 0, j, h => by
    refine Runs.by (small_p20 · _ _ _ _ _ _ _ _ _ _ _ _ _ _ _ _ _) ?_
    rw [drop_end (l := gL) (by omega), eSs_len, ev_lt_f (by omega)]
    simp only [cond_false, List.all_nil, Bool.true_and]
    exact .go' (by rw [w64 (by omega) (by omega)]; rfl) hR
  | m + 1, j, h => by
    have hj : j < gL.length := by omega
    refine Runs.by (small_p20 · _ _ _ _ _ _ _ _ _ _ _ _ _ _ _ _ _) ?_
    have hx : atL (eSs gL) (j : Int) = eS1 (gL.getD j []) := atL_map _ gL j _ hj
    have ih := sq20 gL hN hi R hR m (j + 1) (by omega)
    rw [drop_at [] hj, List.all_cons, hx, eSs_len, ev_lt_t (by omega), ev_le_t (by omega), Bool.and_assoc]
    generalize gL.getD j [] = x at *
    rw [show cT 0 (eS1 x) = mk x from rfl, lt200]
    simp only [Bool.and_self, cond_true]
    refine .chk fun _ => ?_
    rw [w64 (by omega) (by omega)]
    exact .go ih
theorem sq15 (gL : List W) (rL : List Ru) (hN : gL.length ≤ 6) (hM : rL.length ≤ 6) (hi : i < 10) (R : Bool) (hR : Runs csm (small_q4 (eEs l) ((i + 1 : Nat) : Int)) [.bool R]) : ∀ (m j : Nat), j + m = rL.length → Runs csm (small_q15 (eEs l) (i : Nat) (j : Nat) k a1 a2 a3 a4 a5 a6 a7 a8 a9 us (eSs gL) (eRs rL) ws) [.bool ((rL.drop j).all (fun x => le2 x.2.1 && (le2 x.2.2.1 && le2 x.2.2.2)) && (gL.all le2 && R))]
  | 0, j, h => by
    refine Runs.by (small_p15 · _ _ _ _ _ _ _ _ _ _ _ _ _ _ _ _ _) ?_
    rw [drop_end (l := rL) (by omega), eRs_len, ev_lt_f (by omega)]
    exact .go (sq20 l i k a1 a2 a3 a4 a5 a6 a7 a8 a9 us (eRs rL) ws gL hN hi R hR gL.length 0 (Nat.zero_add _))
  | m + 1, j, h => by
    have hj : j < rL.length := by omega
    refine Runs.by (small_p15 · _ _ _ _ _ _ _ _ _ _ _ _ _ _ _ _ _) ?_
    have hx : atL (eRs rL) (j : Int) = eR1 (rL.getD j (false, [], [], [])) := atL_map _ rL j _ hj
    have ih := sq15 gL rL hN hM hi R hR m (j + 1) (by omega)
    rw [drop_at (false, [], [], []) hj, List.all_cons, hx, eRs_len, ev_lt_t (by omega), ev_le_t (by omega)]
    generalize rL.getD j (false, [], [], []) = x at *
    rw [show cT 1 (eR1 x) = mk x.2.1 from rfl, show cT 2 (eR1 x) = mk x.2.2.1 from rfl, show cT 3 (eR1 x) = mk x.2.2.2 from rfl, lt200, lt200, lt200]
    simp only [Bool.and_self, cond_true, Bool.and_assoc]
    refine .chk fun _ => .chk fun _ => .chk fun _ => ?_
    rw [w64 (by omega) (by omega)]
    exact .go ih
theorem sq10 (gL : List W) (rL : List Ru) (wL : List Wr) (hN : gL.length ≤ 6) (hM : rL.length ≤ 6) (hW : wL.length ≤ 6) (hi : i < 10) (R : Bool) (hR : Runs csm (small_q4 (eEs l) ((i + 1 : Nat) : Int)) [.bool R]) : ∀ (m j : Nat), j + m = wL.length → Runs csm (small_q10 (eEs l) (i : Nat) (j : Nat) k a1 a2 a3 a4 a5 a6 a7 a8 a9 us (eSs gL) (eRs rL) (eWs wL)) [.bool ((wL.drop j).all (fun x => le2 x.2.1 && le2 x.1) && (rL.all (fun x => le2 x.2.1 && (le2 x.2.2.1 && le2 x.2.2.2)) && (gL.all le2 && R)))]
  | 0, j, h => by
    refine Runs.by (small_p10 · _ _ _ _ _ _ _ _ _ _ _ _ _ _ _ _ _) ?_
    rw [drop_end (l := wL) (by omega), eWs_len, ev_lt_f (by omega)]
    exact .go (sq15 l i k a1 a2 a3 a4 a5 a6 a7 a8 a9 us (eWs wL) gL rL hN hM hi R hR rL.length 0 (Nat.zero_add _))
  | m + 1, j, h => by
    have hj : j < wL.length := by omega
    refine Runs.by (small_p10 · _ _ _ _ _ _ _ _ _ _ _ _ _ _ _ _ _) ?_
    have hx : atL (eWs wL) (j : Int) = eW1 (wL.getD j ([], [], false)) := atL_map _ wL j _ hj
    have ih := sq10 gL rL wL hN hM hW hi R hR m (j + 1) (by omega)
    rw [drop_at ([], [], false) hj, List.all_cons, hx, eWs_len, ev_lt_t (by omega), ev_le_t (by omega)]
    generalize wL.getD j ([], [], false) = x at *
    rw [show cT 1 (eW1 x) = mk x.2.1 from rfl, show cT 0 (eW1 x) = mk x.1 from rfl, lt200, lt200]
    simp only [Bool.and_self, cond_true, Bool.and_assoc]
    refine .chk fun _ => .chk fun _ => ?_
    rw [w64 (by omega) (by omega)]
    exact .go ih
end
theorem sq4 (l : List Ev) (hl : l.length ≤ 10) : ∀ (m i : Nat), i + m = l.length → Runs csm (small_q4 (eEs l) (i : Nat)) [.bool ((l.drop i).all sm1)]
  | 0, i, h => by
    refine Runs.by (small_p4 · _ _) ?_
    rw [drop_end (l := l) (by omega), eEs_len, ev_lt_f (by omega)]
    exact .ret
  | m + 1, i, h => by
    have hi : i < l.length := by omega
    refine Runs.by (small_p4 · _ _) ?_
    have hx : atL (eEs l) (i : Int) = encE (l.getD i evD) := atL_map _ l i evD hi
    have ih := sq4 l hl m (i + 1) (by omega)
    rw [drop_at evD hi, List.all_cons, hx, eEs_len, ev_lt_t (by omega), ev_le_t (by omega)]
    generalize l.getD i evD = e at *
    generalize (l.drop (i + 1)).all sm1 = R at *
    unfold sm1
    rw [show cX 13 (encE e) = eWs e.writes from rfl, show cX 12 (encE e) = eRs e.rules from rfl, show cX 10 (encE e) = eIs e.users from rfl, show cX 11 (encE e) = eSs e.groups from rfl, show cT 8 (encE e) = mk e.text from rfl, show cT 3 (encE e) = mk e.other from rfl, show cT 2 (encE e) = mk e.name from rfl, show cT 1 (encE e) = mk e.repo from rfl, show cT 9 (encE e) = mk e.gname from rfl,
      eWs_len, eRs_len, eIs_len, eSs_len, lt6, lt6, lt6, lt6, lt200, lt200, lt200, lt200, lt200]
    simp only [Bool.and_self, cond_true, Bool.and_assoc]
    refine .chk fun h1 => .chk fun h2 => .chk fun h3 => .chk fun h4 => .chk fun _ => .chk fun _ => .chk fun _ => .chk fun _ => .chk fun _ => ?_
    have := sq10 l i (cI 0 (encE e)) (mk e.repo) (mk e.name) (mk e.other) (cI 4 (encE e)) (cI 5 (encE e)) (cI 6 (encE e)) (cI 7 (encE e)) (mk e.text) (mk e.gname) (eIs e.users) e.groups e.rules e.writes (Nat.le_of_ble_eq_true h4) (Nat.le_of_ble_eq_true h2) (Nat.le_of_ble_eq_true h1) (by omega) R ih e.writes.length 0 (Nat.zero_add _)
    rw [List.drop_zero] at this
    exact .go this
theorem small_holds : Holds k_small := con_run (xs := []) hold0 fun aa hp r h => by
  split at h
  case h_2 => cases h
  obtain ⟨g, rfl⟩ := xo h
  obtain ⟨l, rfl⟩ := isEs_of g
  rw [dEs_e]
  refine Runs.by (small_e · _) ?_
  rw [eEs_len]
  unfold smallB
  by_cases hl : l.length ≤ 10
  · have := sq4 l hl l.length 0 (Nat.zero_add _)
    rw [List.drop_zero] at this
    rw [ev_lt_f (by omega), nb hl]
    exact .go this
  · rw [ev_lt_t (by omega)]
    refine .ret' ?_
    cases hb : Nat.ble l.length 10
    · rfl
    · exact absurd (Nat.le_of_ble_eq_true hb) hl
end Go.Ab
namespace Go.Ab
open Go.Proofs
theorem kinds_of {k : Int} (h1 : 1 ≤ k) (h2 : k ≤ 22) : k = 1 ∨ k = 2 ∨ k = 3 ∨ k = 4 ∨ k = 5 ∨ k = 6 ∨ k = 7 ∨ k = 8 ∨ k = 9 ∨ k = 10 ∨ k = 11 ∨ k = 12 ∨ k = 13 ∨ k = 14 ∨ k = 15 ∨ k = 16 ∨ k = 17 ∨ k = 18 ∨ k = 19 ∨ k = 20 ∨ k = 21 ∨ k = 22 := by omega
theorem fN_in {k : Int} (h1 : 1 ≤ k) (h2 : k ≤ 22) : fN k cmdsL = [nmOf k] ∧ nmOf k ≠ [] ∧ (nmOf k).length ≤ 10 := by
  rcases kinds_of h1 h2 with rfl | rfl | rfl | rfl | rfl | rfl | rfl | rfl | rfl | rfl | rfl | rfl | rfl | rfl | rfl | rfl | rfl | rfl | rfl | rfl | rfl | rfl <;> exact ⟨by decide, by decide, by decide⟩
theorem fN_out {k : Int} (h : ¬ (1 ≤ k ∧ k ≤ 22)) : fN k cmdsL = [] ∧ nmOf k = [] := by
  have ha : (cmdsL.all fun p => decide (1 ≤ p.2 ∧ p.2 ≤ 22)) = true := by decide
  refine ⟨?_, ?_⟩
  · unfold fN
    rw [List.filter_eq_nil_iff.2, List.map_nil]
    intro p hp he
    have := of_decide_eq_true (List.all_eq_true.1 ha p hp)
    have he : p.2 = k := by simpa using he
    rw [he] at this
    exact h this
  · unfold nmOf
    by_cases h1 : 1 ≤ k
    · rw [ev_le_t h1, ev_le_f (by omega)]; rfl
    · rw [ev_le_f (by omega)]; rfl
theorem tlw_out {e : Ev} (h : ¬ (1 ≤ e.kind ∧ e.kind ≤ 22)) : tlw e = [] := by
  have hk : ∀ n : Int, 1 ≤ n → n ≤ 22 → (e.kind == n) = false := fun n h1 h2 => by
    rw [beq_eq_false_iff_ne]
    intro he
    rw [he] at h
    exact h ⟨h1, h2⟩
  unfold tlw
  simp only [hk 1 (by omega) (by omega), hk 2 (by omega) (by omega), hk 3 (by omega) (by omega), hk 4 (by omega) (by omega), hk 5 (by omega) (by omega), hk 6 (by omega) (by omega), hk 7 (by omega) (by omega), hk 8 (by omega) (by omega), hk 9 (by omega) (by omega), hk 10 (by omega) (by omega), hk 11 (by omega) (by omega), hk 13 (by omega) (by omega), hk 14 (by omega) (by omega), hk 15 (by omega) (by omega), hk 16 (by omega) (by omega), hk 17 (by omega) (by omega), hk 18 (by omega) (by omega), hk 19 (by omega) (by omega), hk 20 (by omega) (by omega), hk 21 (by omega) (by omega), hk 22 (by omega) (by omega), cond_false]
theorem ln_in {e : Ev} (h1 : 1 ≤ e.kind) (h2 : e.kind ≤ 22) : ln e = rln e := by
  unfold ln lnw rln
  rw [(fN_in h1 h2).1]
  rfl
theorem ln_out {e : Ev} (h : ¬ (1 ≤ e.kind ∧ e.kind ≤ 22)) : ln e = [] := by
  unfold ln lnw
  rw [(fN_out h).1, tlw_out h]
  rfl
theorem n10_has {w : W} (h : n10 w) : w.contains 10 = false := by
  cases hc : w.contains 10
  · rfl
  · rw [List.contains_iff_mem] at hc
    exact absurd rfl (h 10 hc)
theorem lnR_eq (e : Ev) : lnR e = rlnR e := by
  unfold lnR rlnR
  by_cases h : 1 ≤ e.kind ∧ e.kind ≤ 22
  · rw [ln_in h.1 h.2, if_neg (fN_in h.1 h.2).2.1, ← evL_eq]
    by_cases h2 : (evL pOps (rln e)).2 = 0
    · have hc := n10_has (evL_n10 _ h2)
      by_cases h3 : (evL pOps (rln e)).1 = e
      · by_cases h4 : 8000 < (rln e).length
        · rw [if_pos (.inr (.inr (.inr h4))), if_pos (.inr (.inr h4))]
        · rw [if_neg (fun h => h.elim (fun h => h h2) fun h => h.elim (fun h => by rw [hc] at h; cases h) fun h => h.elim (fun h => h h3) h4), if_neg (fun h => h.elim (fun h => h h2) fun h => h.elim (fun h => h h3.symm) h4)]
      · rw [if_pos (.inr (.inr (.inl h3))), if_pos (.inr (.inl (fun h => h3 h.symm)))]
    · rw [if_pos (.inl h2), if_pos (.inl h2)]
  · rw [ln_out h, if_pos (fN_out h).2, if_pos (.inl (by decide))]
theorem prR_eq : ∀ (l : List Ev) (acc : W), prR lnR l acc = prR rlnR l acc
  | [], _ => rfl
  | e :: l, acc => by rw [prR_cons, prR_cons, lnR_eq, prR_eq l]
theorem wl_c {b : Bool} {x y : List W} {B : Nat} (h1 : wl x ≤ B) (h2 : wl y ≤ B) : wl (cond b x y) ≤ B := by
  cases b
  · exact h2
  · exact h1
theorem wl_flat {α : Type} (f : α → List W) (B : Nat) : ∀ l : List α, (∀ x ∈ l, wl (f x) ≤ B) → wl (l.flatMap f) ≤ l.length * B
  | [], _ => Nat.zero_le _
  | x :: l, h => by
    have h1 := h x List.mem_cons_self
    have h2 := wl_flat f B l fun y hy => h y (List.mem_cons_of_mem _ hy)
    rw [List.flatMap_cons, wl_app, List.length_cons, Nat.succ_mul]
    omega
theorem qB_le : ∀ w : W, (qB w).length ≤ 2 * w.length
  | [] => Nat.le_refl _
  | c :: w => by
    have := qB_le w
    have h : (qE c).length ≤ 2 := by
      unfold qE
      split
      · exact Nat.le_refl _
      · exact Nat.le_succ _
    rw [qB_cons, List.length_append, List.length_cons]
    omega
theorem qt_le (w : W) : (qt w).length ≤ 2 * w.length + 2 := by
  have := qB_le w
  unfold qt
  rw [List.length_cons, List.length_append, List.length_singleton]
  omega
theorem le2_of {w : W} (h : le2 w = true) : w.length ≤ 200 := Nat.le_of_ble_eq_true h
structure SmEv (e : Ev) : Prop where
  ws : e.writes.length ≤ 6
  rs : e.rules.length ≤ 6
  us : e.users.length ≤ 6
  gs : e.groups.length ≤ 6
  text : e.text.length ≤ 200
  other : e.other.length ≤ 200
  name : e.name.length ≤ 200
  repo : e.repo.length ≤ 200
  gname : e.gname.length ≤ 200
  w : ∀ x ∈ e.writes, x.2.1.length ≤ 200 ∧ x.1.length ≤ 200
  r : ∀ x ∈ e.rules, x.2.1.length ≤ 200 ∧ x.2.2.1.length ≤ 200 ∧ x.2.2.2.length ≤ 200
  g : ∀ x ∈ e.groups, x.length ≤ 200
theorem sm1_of {e : Ev} (h : sm1 e = true) : SmEv e := by
  unfold sm1 at h
  simp only [Bool.and_eq_true] at h
  obtain ⟨⟨⟨h1, h2⟩, h3, h4⟩, ⟨⟨h5, h6⟩, h7, h8, h9⟩, h10, h11, h12⟩ := h
  refine ⟨Nat.le_of_ble_eq_true h1, Nat.le_of_ble_eq_true h2, Nat.le_of_ble_eq_true h3, Nat.le_of_ble_eq_true h4, le2_of h5, le2_of h6, le2_of h7, le2_of h8, le2_of h9, fun x hx => ?_, fun x hx => ?_, fun x hx => le2_of (List.all_eq_true.1 h12 x hx)⟩
  · have := List.all_eq_true.1 h10 x hx
    simp only [Bool.and_eq_true] at this
    exact ⟨le2_of this.1, le2_of this.2⟩
  · have := List.all_eq_true.1 h11 x hx
    simp only [Bool.and_eq_true] at this
    exact ⟨le2_of this.1, le2_of this.2.1, le2_of this.2.2⟩
theorem lsw_le {e : Ev} (s : SmEv e) (i4 : (it e.who).length ≤ 21) (iu : e.users.all i64B = true) : wl (lsw e) ≤ 10000 := by
  have hw : wl (e.writes.flatMap wW) ≤ e.writes.length * 700 := wl_flat wW 700 _ fun x hx => by
    obtain ⟨a, b⟩ := s.w x hx
    have := qt_le x.2.1
    unfold wW
    cases x.2.2
    · show wl [wPut, x.1, qt x.2.1] ≤ 700
      simp only [wl_cons, wl_nil, wPut, List.length_cons, List.length_nil]
      omega
    · show wl [wDel, x.1] ≤ 700
      simp only [wl_cons, wl_nil, wDel, List.length_cons, List.length_nil]
      omega
  have hr : wl (e.rules.flatMap wR) ≤ e.rules.length * 700 := wl_flat wR 700 _ fun x hx => by
    obtain ⟨a, b, c⟩ := s.r x hx
    unfold wR rq
    have h1 : (cond x.1 wAllow wDeny).length ≤ 5 := by cases x.1 <;> decide
    have h2 : (cond x.2.2.1.isEmpty [45] x.2.2.1).length ≤ 201 := by
      cases x.2.2.1.isEmpty
      · show x.2.2.1.length ≤ 201; omega
      · show ([45] : W).length ≤ 201; decide
    simp only [wl_cons, wl_nil]
    omega
  have hu : wl (e.users.flatMap fun u => [wUser, it u]) ≤ e.users.length * 100 := wl_flat _ 100 _ fun x hx => by
    have := it_len (List.all_eq_true.1 iu x hx)
    simp only [wl_cons, wl_nil, wUser, List.length_cons, List.length_nil]
    omega
  have hg : wl (e.groups.flatMap fun g => [wGroup, g]) ≤ e.groups.length * 300 := wl_flat _ 300 _ fun x hx => by
    have := s.g x hx
    simp only [wl_cons, wl_nil, wGroup, List.length_cons, List.length_nil]
    omega
  have s1 := s.ws
  have s2 := s.rs
  have s3 := s.us
  have s4 := s.gs
  have s5 := s.repo
  have s6 := s.name
  have s7 := s.gname
  unfold lsw
  refine wl_c ?_ (wl_c ?_ ?_)
  · simp only [wl_app, wl_cons, wl_nil]
    omega
  · unfold wG
    simp only [wl_app, wl_cons, wl_nil]
    omega
  · omega
theorem tlw_le {e : Ev} (s : SmEv e) (o : okI e = true) : wl (tlw e) ≤ 10000 := by
  unfold okI at o
  simp only [Bool.and_eq_true] at o
  obtain ⟨⟨i4, i5, i6, i7⟩, iu⟩ := o
  have i4 := it_len i4
  have i5 := it_len i5
  have i6 := it_len i6
  have i7 := it_len i7
  have hl := lsw_le s i4 iu
  have q1 := qt_le e.text
  have q2 := qt_le e.other
  have s1 := s.text
  have s2 := s.other
  have s5 := s.repo
  have s6 := s.name
  have s7 := s.gname
  unfold tlw
  refine wl_c hl (wl_c ?_ (wl_c ?_ (wl_c ?_ (wl_c ?_ (wl_c ?_ (wl_c hl (wl_c hl (wl_c ?_ (wl_c ?_ (wl_c ?_ (wl_c ?_ (wl_c ?_ (wl_c ?_ (wl_c ?_ (wl_c ?_ (wl_c ?_ (wl_c ?_ (wl_c ?_ (wl_c ?_ (wl_c ?_ ?_)))))))))))))))))))) <;> simp only [wl_cons, wl_nil] <;> omega
theorem gLn_sm {e : Ev} (h : sm1 e = true) (o : okI e = true) : gLn e = true := by
  have s := sm1_of h
  have ht := tlw_le s o
  have hl : (ln e).length ≤ 900000 := by
    by_cases hk : 1 ≤ e.kind ∧ e.kind ≤ 22
    · obtain ⟨h1, _, h3⟩ := fN_in hk.1 hk.2
      have := jn_wl (lnw e)
      unfold ln
      unfold lnw at this ⊢
      rw [h1] at this ⊢
      simp only [wl_app, wl_cons, wl_nil] at this
      omega
    · rw [ln_out hk]; exact Nat.zero_le _
  unfold gLn smE
  rw [o, nb hl, sm_t (by have := s.us; omega), sm_t (by have := s.gs; omega), sm_t (by have := s.rs; omega), sm_t (by have := s.ws; omega)]; rfl
theorem tw_wl (l : List W) : (tw l).length = wl l := tl_len l
theorem gRl_sm {e : Ev} (h : sm1 e = true) (o : okI e = true) (hk : i64B e.kind = true) : gRl e = true := by
  have s := sm1_of h
  have ht := tlw_le s o
  have hl : (rln e).length ≤ 900000 := by
    unfold rln
    rw [List.length_append, tw_wl]
    by_cases hk : 1 ≤ e.kind ∧ e.kind ≤ 22
    · have := (fN_in hk.1 hk.2).2.2
      omega
    · rw [(fN_out hk).2, List.length_nil]; omega
  unfold gRl
  rw [hk, o, nb hl]; rfl
end Go.Ab
