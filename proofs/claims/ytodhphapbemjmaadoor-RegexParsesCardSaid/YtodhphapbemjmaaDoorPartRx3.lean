/- The normal forms of functions of the layer, printed by a program of this work. -/
import Derived.Test.YtodhphapbemjmaaDoorPartRx2
namespace Go.Ab
open Go.Proofs
/-! (*codesearch/regex.reader).atom -/
noncomputable def atom_q12 (h0_0 : ByteArray) (h0_1 : Bool) (h1_0 : Int) (h1_2 : Int) (h1_3 : Int) (h2 : Nat → Bool) (h3 : List (List L)) (h4 : List (List L)) : Req := .point 78 [(some ([.str, .bool], [.any, .any]))] (todoAt Tryd.prog 78 12) ⟨[an, an, (.lf (.ptr 1 0)), an, an, (.lf (.ptr 2 0)), an, an, an, an, an, an, an, an, an, an, an, an, an, an, an, an, an, an, an, an, an, an, an, an, an, an, an, an, an, an, an, an, an, an, an, an, an, an, an, an, an, an, an, an, an, an, an, an, an, an, an, an, an, an, an, an, an, an, an, an, an, an, an, an, an, an, an, an, an, an, an, an, an, an, an, an, an], [(.box [.str, .bool] [(.str h0_0), (.bool h0_1)]), (.box [(.int IntKind.i64), (.sl 48), (.int IntKind.i64), (.int IntKind.i64), (.sl 25)] [(.int IntKind.i64 h1_0), (.row 3), (.int IntKind.i64 h1_2), (.int IntKind.i64 h1_3), (.row 4)]), (.box (List.replicate 256 .bool) (arrB h2 256)), (.row 48 h3 true), (.row 25 h4 true)]⟩
noncomputable def atom_q19 (c3 : Int) (h0_0 : ByteArray) (h0_1 : Bool) (h1_0 : Int) (h1_2 : Int) (h1_3 : Int) (h2 : List (List L)) (h3 : List (List L)) : Req := .point 78 [(some ([.str, .bool], [.any, .any]))] (todoAt Tryd.prog 78 19) ⟨[(.lf (.ptr 0 0)), an, (.lf (.ptr 1 0)), (.lf (.int IntKind.u8 c3)), an, an, an, an, an, an, an, an, an, an, an, an, an, an, an, an, an, an, an, an, an, an, an, an, an, an, an, an, an, an, an, an, an, an, an, an, an, an, an, an, an, an, an, an, an, an, an, an, an, an, an, an, an, an, an, an, an, an, an, an, an, an, an, an, an, an, an, an, an, an, an, an, an, an, an, an, an, an, an], [(.box [.str, .bool] [(.str h0_0), (.bool h0_1)]), (.box [(.int IntKind.i64), (.sl 48), (.int IntKind.i64), (.int IntKind.i64), (.sl 25)] [(.int IntKind.i64 h1_0), (.row 2), (.int IntKind.i64 h1_2), (.int IntKind.i64 h1_3), (.row 3)]), (.row 48 h2 true), (.row 25 h3 true)]⟩
noncomputable def atom_q23 (c3 : Int) (h0_0 : ByteArray) (h0_1 : Bool) (h1_0 : Int) (h1_2 : Int) (h1_3 : Int) (h2 : List (List L)) (h3 : List (List L)) : Req := .point 78 [(some ([.str, .bool], [.any, .any]))] (todoAt Tryd.prog 78 23) ⟨[(.lf (.ptr 0 0)), an, (.lf (.ptr 1 0)), (.lf (.int IntKind.u8 c3)), an, an, an, an, an, an, an, an, an, an, an, an, an, an, an, an, an, an, an, an, an, an, an, an, an, an, an, an, an, an, an, an, an, an, an, an, an, an, an, an, an, an, an, an, an, an, an, an, an, an, an, an, an, an, an, an, an, an, an, an, an, an, an, an, an, an, an, an, an, an, an, an, an, an, an, an, an, an, an], [(.box [.str, .bool] [(.str h0_0), (.bool h0_1)]), (.box [(.int IntKind.i64), (.sl 48), (.int IntKind.i64), (.int IntKind.i64), (.sl 25)] [(.int IntKind.i64 h1_0), (.row 2), (.int IntKind.i64 h1_2), (.int IntKind.i64 h1_3), (.row 3)]), (.row 48 h2 true), (.row 25 h3 true)]⟩
noncomputable def atom_q20 (c3 : Int) (ok7 : Bool) (h0_0 : ByteArray) (h0_1 : Bool) (h1_0 : Int) (h1_2 : Int) (h1_3 : Int) (h2 : Nat → Bool) (h3 : List (List L)) (h4 : List (List L)) : Req := .point 78 [(some ([.str, .bool], [.any, .any]))] (todoAt Tryd.prog 78 20) ⟨[(.lf (.ptr 0 0)), an, (.lf (.ptr 1 0)), (.lf (.int IntKind.u8 c3)), an, an, (.lf (.ptr 2 0)), (.lf (.bool ok7)), an, an, an, an, an, an, an, an, an, an, an, an, an, an, an, an, an, an, an, an, an, an, an, an, an, an, an, an, an, an, an, an, an, an, an, an, an, an, an, an, an, an, an, an, an, an, an, an, an, an, an, an, an, an, an, an, an, an, an, an, an, an, an, an, an, an, an, an, an, an, an, an, an, an, an], [(.box [.str, .bool] [(.str h0_0), (.bool h0_1)]), (.box [(.int IntKind.i64), (.sl 48), (.int IntKind.i64), (.int IntKind.i64), (.sl 25)] [(.int IntKind.i64 h1_0), (.row 3), (.int IntKind.i64 h1_2), (.int IntKind.i64 h1_3), (.row 4)]), (.box (List.replicate 256 .bool) (arrB h2 256)), (.row 48 h3 true), (.row 25 h4 true)]⟩
noncomputable def atom_q25 (c3 : Int) (h0_0 : ByteArray) (h0_1 : Bool) (h1_0 : Int) (h1_2 : Int) (h1_3 : Int) (h2 : List (List L)) (h3 : List (List L)) : Req := .point 78 [(some ([.str, .bool], [.any, .any]))] (todoAt Tryd.prog 78 25) ⟨[an, an, (.lf (.ptr 1 0)), (.lf (.int IntKind.u8 c3)), an, an, an, an, an, an, an, an, an, an, an, an, an, an, an, an, an, an, an, an, an, an, an, an, an, an, an, an, an, an, an, an, an, an, an, an, an, an, an, an, an, an, an, an, an, an, an, an, an, an, an, an, an, an, an, an, an, an, an, an, an, an, an, an, an, an, an, an, an, an, an, an, an, an, an, an, an, an, an], [(.box [.str, .bool] [(.str h0_0), (.bool h0_1)]), (.box [(.int IntKind.i64), (.sl 48), (.int IntKind.i64), (.int IntKind.i64), (.sl 25)] [(.int IntKind.i64 h1_0), (.row 2), (.int IntKind.i64 h1_2), (.int IntKind.i64 h1_3), (.row 3)]), (.row 48 h2 true), (.row 25 h3 true)]⟩
noncomputable def atom_q22 (h0_0 : ByteArray) (h0_1 : Bool) (h1_0 : Int) (h1_2 : Int) (h1_3 : Int) (h2 : Nat → Bool) (h3 : List (List L)) (h4 : List (List L)) : Req := .point 78 [(some ([.str, .bool], [.any, .any]))] (todoAt Tryd.prog 78 22) ⟨[an, an, (.lf (.ptr 1 0)), an, an, an, (.lf (.ptr 2 0)), an, an, an, an, an, an, an, an, an, an, an, an, an, an, an, an, an, an, an, an, an, an, an, an, an, an, an, an, an, an, an, an, an, an, an, an, an, an, an, an, an, an, an, an, an, an, an, an, an, an, an, an, an, an, an, an, an, an, an, an, an, an, an, an, an, an, an, an, an, an, an, an, an, an, an, an], [(.box [.str, .bool] [(.str h0_0), (.bool h0_1)]), (.box [(.int IntKind.i64), (.sl 48), (.int IntKind.i64), (.int IntKind.i64), (.sl 25)] [(.int IntKind.i64 h1_0), (.row 3), (.int IntKind.i64 h1_2), (.int IntKind.i64 h1_3), (.row 4)]), (.box (List.replicate 256 .bool) (arrB h2 256)), (.row 48 h3 true), (.row 25 h4 true)]⟩
theorem atom_e (G : Req → R) (n : Nat) (s : ByteArray) (b : Bool) : runB (cfg [k_next, k_take, (k_alt n), k_want, k_of, k_invert, k_branges, k_set, k_escape, k_class]) G (.enter 78 [(.lf (.ptr 0 0))] [(.box [.str, .bool] [(.str (s)), (.bool (b))])]) =
  (cond (takesS (bl s, b) (u8 40))
   (cond (Nat.ble (ByteArray.size (mk (Prod.fst (takeS (bl s, b) (u8 40))))) 1000 && Nat.ble (ByteArray.size (mk (Prod.fst (takeS (bl s, b) (u8 40)))) + 1) n)
    (some [(.int IntKind.i64 (Rx.kind (Prod.fst (altS n (bl (mk (Prod.fst (takeS (bl s, b) (u8 40)))), b))))), (.lst 48 (encRs (Rx.set (Prod.fst (altS n (bl (mk (Prod.fst (takeS (bl s, b) (u8 40)))), b)))))), (.int IntKind.i64 (Rx.mn (Prod.fst (altS n (bl (mk (Prod.fst (takeS (bl s, b) (u8 40)))), b))))), (.int IntKind.i64 (Rx.mx (Prod.fst (altS n (bl (mk (Prod.fst (takeS (bl s, b) (u8 40)))), b))))), (.lst 25 (List.map encX (Rx.subs (Prod.fst (altS n (bl (mk (Prod.fst (takeS (bl s, b) (u8 40)))), b)))))), (.str (mk (Prod.fst (wantS (bl (mk (Prod.fst (Prod.snd (altS n (bl (mk (Prod.fst (takeS (bl s, b) (u8 40)))), b))))), Prod.snd (Prod.snd (altS n (bl (mk (Prod.fst (takeS (bl s, b) (u8 40)))), b)))) (u8 41))))), (.bool (Prod.snd (wantS (bl (mk (Prod.fst (Prod.snd (altS n (bl (mk (Prod.fst (takeS (bl s, b) (u8 40)))), b))))), Prod.snd (Prod.snd (altS n (bl (mk (Prod.fst (takeS (bl s, b) (u8 40)))), b)))) (u8 41))))])
    none)
   (cond (takesS (bl (mk (Prod.fst (takeS (bl s, b) (u8 40)))), b) (u8 94))
    (some [(.int IntKind.i64 (5)), (.lst 48 []), (.int IntKind.i64 (0)), (.int IntKind.i64 (0)), (.lst 25 []), (.str (mk (Prod.fst (takeS (bl (mk (Prod.fst (takeS (bl s, b) (u8 40)))), b) (u8 94))))), (.bool (b))])
    (cond (takesS (bl (mk (Prod.fst (takeS (bl (mk (Prod.fst (takeS (bl s, b) (u8 40)))), b) (u8 94)))), b) (u8 36))
     (some [(.int IntKind.i64 (6)), (.lst 48 []), (.int IntKind.i64 (0)), (.int IntKind.i64 (0)), (.lst 25 []), (.str (mk (Prod.fst (takeS (bl (mk (Prod.fst (takeS (bl (mk (Prod.fst (takeS (bl s, b) (u8 40)))), b) (u8 94)))), b) (u8 36))))), (.bool (b))])
     (cond (takesS (bl (mk (Prod.fst (takeS (bl (mk (Prod.fst (takeS (bl (mk (Prod.fst (takeS (bl s, b) (u8 40)))), b) (u8 94)))), b) (u8 36)))), b) (u8 46))
      (cond (isRs [[L.int IntKind.u8 10, L.int IntKind.u8 10]])
       (cond (isB (arrB (fun j => hasI (decRs [[L.int IntKind.u8 10, L.int IntKind.u8 10]]) (↑j : Int)) 256))
        (G (atom_q12 (mk (Prod.fst (takeS (bl (mk (Prod.fst (takeS (bl (mk (Prod.fst (takeS (bl (mk (Prod.fst (takeS (bl s, b) (u8 40)))), b) (u8 94)))), b) (u8 36)))), b) (u8 46)))) b 0 0 0 (fun j => !getB (arrB (fun j => hasI (decRs [[L.int IntKind.u8 10, L.int IntKind.u8 10]]) (↑j : Int)) 256) j) [] []))
        none)
       none)
      (cond (takesS (bl (mk (Prod.fst (takeS (bl (mk (Prod.fst (takeS (bl (mk (Prod.fst (takeS (bl (mk (Prod.fst (takeS (bl s, b) (u8 40)))), b) (u8 94)))), b) (u8 36)))), b) (u8 46)))), b) (u8 91))
       (cond (Nat.ble (ByteArray.size (mk (Prod.fst (takeS (bl (mk (Prod.fst (takeS (bl (mk (Prod.fst (takeS (bl (mk (Prod.fst (takeS (bl (mk (Prod.fst (takeS (bl s, b) (u8 40)))), b) (u8 94)))), b) (u8 36)))), b) (u8 46)))), b) (u8 91))))) 1000)
        (some [(.int IntKind.i64 (Rx.kind (setX (Prod.fst (setS (bl (mk (Prod.fst (takeS (bl (mk (Prod.fst (takeS (bl (mk (Prod.fst (takeS (bl (mk (Prod.fst (takeS (bl (mk (Prod.fst (takeS (bl s, b) (u8 40)))), b) (u8 94)))), b) (u8 36)))), b) (u8 46)))), b) (u8 91)))), b)))))), (.lst 48 (encRs (Rx.set (setX (Prod.fst (setS (bl (mk (Prod.fst (takeS (bl (mk (Prod.fst (takeS (bl (mk (Prod.fst (takeS (bl (mk (Prod.fst (takeS (bl (mk (Prod.fst (takeS (bl s, b) (u8 40)))), b) (u8 94)))), b) (u8 36)))), b) (u8 46)))), b) (u8 91)))), b))))))), (.int IntKind.i64 (Rx.mn (setX (Prod.fst (setS (bl (mk (Prod.fst (takeS (bl (mk (Prod.fst (takeS (bl (mk (Prod.fst (takeS (bl (mk (Prod.fst (takeS (bl (mk (Prod.fst (takeS (bl s, b) (u8 40)))), b) (u8 94)))), b) (u8 36)))), b) (u8 46)))), b) (u8 91)))), b)))))), (.int IntKind.i64 (Rx.mx (setX (Prod.fst (setS (bl (mk (Prod.fst (takeS (bl (mk (Prod.fst (takeS (bl (mk (Prod.fst (takeS (bl (mk (Prod.fst (takeS (bl (mk (Prod.fst (takeS (bl s, b) (u8 40)))), b) (u8 94)))), b) (u8 36)))), b) (u8 46)))), b) (u8 91)))), b)))))), (.lst 25 []), (.str (mk (Prod.fst (Prod.snd (setS (bl (mk (Prod.fst (takeS (bl (mk (Prod.fst (takeS (bl (mk (Prod.fst (takeS (bl (mk (Prod.fst (takeS (bl (mk (Prod.fst (takeS (bl s, b) (u8 40)))), b) (u8 94)))), b) (u8 36)))), b) (u8 46)))), b) (u8 91)))), b)))))), (.bool (Prod.snd (Prod.snd (setS (bl (mk (Prod.fst (takeS (bl (mk (Prod.fst (takeS (bl (mk (Prod.fst (takeS (bl (mk (Prod.fst (takeS (bl (mk (Prod.fst (takeS (bl s, b) (u8 40)))), b) (u8 94)))), b) (u8 36)))), b) (u8 46)))), b) (u8 91)))), b)))))])
        none)
       (cond (takesS (bl (mk (Prod.fst (takeS (bl (mk (Prod.fst (takeS (bl (mk (Prod.fst (takeS (bl (mk (Prod.fst (takeS (bl (mk (Prod.fst (takeS (bl s, b) (u8 40)))), b) (u8 94)))), b) (u8 36)))), b) (u8 46)))), b) (u8 91)))), b) (u8 92))
        (cond (takesS (bl (mk (Prod.fst (takeS (bl (mk (Prod.fst (takeS (bl (mk (Prod.fst (takeS (bl (mk (Prod.fst (takeS (bl (mk (Prod.fst (takeS (bl (mk (Prod.fst (takeS (bl s, b) (u8 40)))), b) (u8 94)))), b) (u8 36)))), b) (u8 46)))), b) (u8 91)))), b) (u8 92)))), b) (u8 98))
         (some [(.int IntKind.i64 (7)), (.lst 48 []), (.int IntKind.i64 (0)), (.int IntKind.i64 (0)), (.lst 25 []), (.str (mk (Prod.fst (takeS (bl (mk (Prod.fst (takeS (bl (mk (Prod.fst (takeS (bl (mk (Prod.fst (takeS (bl (mk (Prod.fst (takeS (bl (mk (Prod.fst (takeS (bl (mk (Prod.fst (takeS (bl s, b) (u8 40)))), b) (u8 94)))), b) (u8 36)))), b) (u8 46)))), b) (u8 91)))), b) (u8 92)))), b) (u8 98))))), (.bool (b))])
         (G (atom_q19 ((↑(UInt8.toNat (nextS (bl (mk (Prod.fst (takeS (bl (mk (Prod.fst (takeS (bl (mk (Prod.fst (takeS (bl (mk (Prod.fst (takeS (bl (mk (Prod.fst (takeS (bl (mk (Prod.fst (takeS (bl s, b) (u8 40)))), b) (u8 94)))), b) (u8 36)))), b) (u8 46)))), b) (u8 91)))), b) (u8 92)))), b))) : Int)) (mk (Prod.fst (takeS (bl (mk (Prod.fst (takeS (bl (mk (Prod.fst (takeS (bl (mk (Prod.fst (takeS (bl (mk (Prod.fst (takeS (bl (mk (Prod.fst (takeS (bl (mk (Prod.fst (takeS (bl s, b) (u8 40)))), b) (u8 94)))), b) (u8 36)))), b) (u8 46)))), b) (u8 91)))), b) (u8 92)))), b) (u8 98)))) b 0 0 0 [] [])))
        (G (atom_q23 ((↑(UInt8.toNat (nextS (bl s, b))) : Int)) (mk (Prod.fst (takeS (bl (mk (Prod.fst (takeS (bl (mk (Prod.fst (takeS (bl (mk (Prod.fst (takeS (bl (mk (Prod.fst (takeS (bl (mk (Prod.fst (takeS (bl s, b) (u8 40)))), b) (u8 94)))), b) (u8 36)))), b) (u8 46)))), b) (u8 91)))), b) (u8 92)))) b 0 0 0 [] [])))))))) := by kernel_rfl
theorem atom_p12 (G : Req → R) (n : Nat) (h0_0 : ByteArray) (h0_1 : Bool) (h1_0 : Int) (h1_2 : Int) (h1_3 : Int) (h2 : Nat → Bool) (h3 : List (List L)) (h4 : List (List L)) : runB (cfg [k_next, k_take, (k_alt n), k_want, k_of, k_invert, k_branges, k_set, k_escape, k_class]) G (atom_q12 h0_0 h0_1 h1_0 h1_2 h1_3 h2 h3 h4) =
  (cond (isB (arrB (fun j => h2 j) 256))
   (some [(.int IntKind.i64 (1)), (.lst 48 (encRs (canR (getB (arrB (fun j => h2 j) 256)) 256))), (.int IntKind.i64 (0)), (.int IntKind.i64 (0)), (.lst 25 []), (.str (h0_0)), (.bool (h0_1))])
   none) := by kernel_rfl
theorem atom_p19 (G : Req → R) (n : Nat) (c3 : Int) (h0_0 : ByteArray) (h0_1 : Bool) (h1_0 : Int) (h1_2 : Int) (h1_3 : Int) (h2 : List (List L)) (h3 : List (List L)) : runB (cfg [k_next, k_take, (k_alt n), k_want, k_of, k_invert, k_branges, k_set, k_escape, k_class]) G (atom_q19 c3 h0_0 h0_1 h1_0 h1_2 h1_3 h2 h3) =
  (cond (okB c3)
   (G (atom_q20 c3 (escOk (u8 c3)) h0_0 h0_1 h1_0 h1_2 h1_3 (fun j => escF (u8 c3) j) h2 h3))
   none) := by kernel_rfl
theorem atom_p23 (G : Req → R) (n : Nat) (c3 : Int) (h0_0 : ByteArray) (h0_1 : Bool) (h1_0 : Int) (h1_2 : Int) (h1_3 : Int) (h2 : List (List L)) (h3 : List (List L)) : runB (cfg [k_next, k_take, (k_alt n), k_want, k_of, k_invert, k_branges, k_set, k_escape, k_class]) G (atom_q23 c3 h0_0 h0_1 h1_0 h1_2 h1_3 h2 h3) =
  (cond (okB c3)
   (cond (classB (u8 c3) != 0)
    (G (atom_q25 c3 h0_0 true h1_0 h1_2 h1_3 h2 h3))
    (cond (okB c3)
     (cond (!takesS (bl h0_0, h0_1) (u8 c3))
      (G (atom_q25 c3 (mk (Prod.fst (takeS (bl h0_0, h0_1) (u8 c3)))) true h1_0 h1_2 h1_3 h2 h3))
      (G (atom_q25 c3 (mk (Prod.fst (takeS (bl h0_0, h0_1) (u8 c3)))) h0_1 h1_0 h1_2 h1_3 h2 h3)))
     none))
   none) := by kernel_rfl
theorem atom_p20 (G : Req → R) (n : Nat) (c3 : Int) (ok7 : Bool) (h0_0 : ByteArray) (h0_1 : Bool) (h1_0 : Int) (h1_2 : Int) (h1_3 : Int) (h2 : Nat → Bool) (h3 : List (List L)) (h4 : List (List L)) : runB (cfg [k_next, k_take, (k_alt n), k_want, k_of, k_invert, k_branges, k_set, k_escape, k_class]) G (atom_q20 c3 ok7 h0_0 h0_1 h1_0 h1_2 h1_3 h2 h3 h4) =
  (cond (!ok7)
   (G (atom_q22 h0_0 true h1_0 h1_2 h1_3 (fun j => h2 j) h3 h4))
   (cond (okB c3)
    (cond (!takesS (bl h0_0, h0_1) (u8 c3))
     (G (atom_q22 (mk (Prod.fst (takeS (bl h0_0, h0_1) (u8 c3)))) true h1_0 h1_2 h1_3 (fun j => h2 j) h3 h4))
     (G (atom_q22 (mk (Prod.fst (takeS (bl h0_0, h0_1) (u8 c3)))) h0_1 h1_0 h1_2 h1_3 (fun j => h2 j) h3 h4)))
    none)) := by kernel_rfl
theorem atom_p25 (G : Req → R) (n : Nat) (c3 : Int) (h0_0 : ByteArray) (h0_1 : Bool) (h1_0 : Int) (h1_2 : Int) (h1_3 : Int) (h2 : List (List L)) (h3 : List (List L)) : runB (cfg [k_next, k_take, (k_alt n), k_want, k_of, k_invert, k_branges, k_set, k_escape, k_class]) G (atom_q25 c3 h0_0 h0_1 h1_0 h1_2 h1_3 h2 h3) =
  (some [(.int IntKind.i64 (1)), (.lst 48 [[(.int IntKind.u8 (c3)), (.int IntKind.u8 (c3))]]), (.int IntKind.i64 (0)), (.int IntKind.i64 (0)), (.lst 25 []), (.str (h0_0)), (.bool (h0_1))]) := by kernel_rfl
theorem atom_p22 (G : Req → R) (n : Nat) (h0_0 : ByteArray) (h0_1 : Bool) (h1_0 : Int) (h1_2 : Int) (h1_3 : Int) (h2 : Nat → Bool) (h3 : List (List L)) (h4 : List (List L)) : runB (cfg [k_next, k_take, (k_alt n), k_want, k_of, k_invert, k_branges, k_set, k_escape, k_class]) G (atom_q22 h0_0 h0_1 h1_0 h1_2 h1_3 h2 h3 h4) =
  (cond (isB (arrB (fun j => h2 j) 256))
   (some [(.int IntKind.i64 (1)), (.lst 48 (encRs (canR (getB (arrB (fun j => h2 j) 256)) 256))), (.int IntKind.i64 (0)), (.int IntKind.i64 (0)), (.lst 25 []), (.str (h0_0)), (.bool (h0_1))])
   none) := by kernel_rfl

end Go.Ab
namespace Go.Ab
open Go.Proofs

/-! ### lengths -/
theorem numL_len : ∀ (k : Nat) (n d : Int) (s : RS), (numL k n d s).2.2.1.length ≤ s.1.length
  | 0, n, d, s => Nat.le_refl _
  | k + 1, n, d, s => by
    rw [numL]
    split
    · split
      · exact Nat.le_refl _
      · exact Nat.le_trans (numL_len k _ _ _) (takeS_len _ _)
    · exact Nat.le_refl _
theorem numS_len (s : RS) : (numS s).2.1.length ≤ s.1.length := numL_len 4 0 0 s
theorem setL_len : ∀ (n : Nat) (first : Bool) (s : RS) (f : Nat → Bool), (setL n first s f).1.1.length ≤ s.1.length
  | 0, first, s, f => Nat.le_refl _
  | n + 1, first, s, f => by
    rw [setL]
    simp only [elemS_eq]
    have h1 := elemR_len s
    have h2 := takeS_len (elemR s) 45
    have h3 := elemR_len (takeS (elemR s) 45)
    split
    · split
      · refine Nat.le_trans (setL_len n false _ _) ?_
        split
        · show (elemR (takeS (elemR s) 45)).1.length ≤ _; omega
        · omega
      · exact Nat.le_trans (setL_len n false _ _) h1
    · exact Nat.le_refl _
theorem setS_len (s : RS) : (setS s).2.1.length ≤ s.1.length := by
  unfold setS
  have h1 := wantS_len (setL (s.1.length + 2) true (takeS s 94) fun _ => false).1 93
  have h2 := setL_len (s.1.length + 2) true (takeS s 94) fun _ => false
  have h3 := takeS_len s 94
  show (wantS _ 93).1.length ≤ _
  omega
section
variable {alt : RS → Rx × RS} (ha : ∀ s, (alt s).2.1.length ≤ s.1.length)
include ha
theorem atomS_prog (s : RS) : (atomS alt s).2.2 = true ∨ (atomS alt s).2.1.length + 1 ≤ s.1.length := by
  unfold atomS
  split
  · rename_i h
    have h1 := takeS_lt h
    have h2 := ha (takeS s 40)
    have h3 := wantS_len (alt (takeS s 40)).2 41
    right
    show (wantS _ 41).1.length + 1 ≤ _
    omega
  · split
    · rename_i h; right; exact Nat.le_of_eq (takeS_lt h)
    · split
      · rename_i h; right; exact Nat.le_of_eq (takeS_lt h)
      · split
        · rename_i h; right; exact Nat.le_of_eq (takeS_lt h)
        · split
          · rename_i h
            have h1 := takeS_lt h
            have h2 := setS_len (takeS s 91)
            right
            show (setS _).2.1.length + 1 ≤ _
            omega
          · split
            · rename_i h
              have h1 := takeS_lt h
              split
              · have h2 := takeS_len (takeS s 92) 98
                right
                show (takeS _ 98).1.length + 1 ≤ _
                omega
              · have h2 := takeS_len (takeS s 92) (nextS (takeS s 92))
                split
                · right
                  show (takeS (takeS s 92) _).1.length + 1 ≤ _
                  omega
                · left; rfl
            · split
              · rename_i h
                right
                exact Nat.le_of_eq (takeS_lt h.2)
              · left; rfl
theorem atomS_len (s : RS) : (atomS alt s).2.1.length ≤ s.1.length := by
  unfold atomS
  have w1 := takeS_len s 40
  have w2 := ha (takeS s 40)
  have w3 := wantS_len (alt (takeS s 40)).2 41
  have w4 := takeS_len s 91
  have w5 := setS_len (takeS s 91)
  have w6 := takeS_len s 92
  have w7 := takeS_len (takeS s 92) 98
  have w8 := takeS_len (takeS s 92) (nextS (takeS s 92))
  split
  · show (wantS _ 41).1.length ≤ _; omega
  · split
    · exact takeS_len _ _
    · split
      · exact takeS_len _ _
      · split
        · exact takeS_len _ _
        · split
          · show (setS _).2.1.length ≤ _; omega
          · split
            · split
              · show (takeS _ 98).1.length ≤ _; omega
              · split
                · show (takeS (takeS s 92) _).1.length ≤ _; omega
                · show (takeS s 92).1.length ≤ _; omega
            · split
              · exact takeS_len _ _
              · exact Nat.le_refl _
end
theorem brS_len (x : Rx) (s : RS) : (brS x s).2.1.length ≤ s.1.length := by
  unfold brS
  have h1 := numS_len s
  have h2 := takeS_len (numS s).2 44
  have h3 := wantS_len (takeS (numS s).2 44) 125
  have h4 := numS_len (takeS (numS s).2 44)
  have h5 := wantS_len (numS (takeS (numS s).2 44)).2 125
  have h6 := wantS_len (numS s).2 125
  split
  · split
    · show (wantS _ 125).1.length ≤ _; omega
    · show (wantS _ 125).1.length ≤ _; omega
  · show (wantS _ 125).1.length ≤ _; omega
theorem repS_len (x : Rx) (s : RS) : (repS x s).2.1.length ≤ s.1.length := by
  unfold repS
  split
  · exact takeS_len _ _
  · split
    · exact takeS_len _ _
    · split
      · exact takeS_len _ _
      · split
        · have h1 := brS_len x (takeS s 123)
          have h2 := takeS_len s 123
          omega
        · exact Nat.le_refl _
/-- What was wrong stays wrong. -/
theorem takesS_of_bad {s : RS} (h : s.2 = true) (c : UInt8) : takesS s c = false := by
  obtain ⟨l, b⟩ := s
  cases h; rfl
theorem repS_bad (x : Rx) {s : RS} (h : s.2 = true) : repS x s = (x, s) := by
  unfold repS
  simp only [takesS_of_bad h, Bool.false_eq_true, if_false]
section
variable {alt : RS → Rx × RS} (ha : ∀ s, (alt s).2.1.length ≤ s.1.length)
include ha
theorem itemS_len (s : RS) : (itemS alt s).2.1.length ≤ s.1.length := Nat.le_trans (repS_len _ _) (atomS_len ha s)
theorem itemS_prog (s : RS) : (itemS alt s).2.2 = true ∨ (itemS alt s).2.1.length + 1 ≤ s.1.length := by
  unfold itemS
  rcases atomS_prog ha s with h | h
  · left; rw [repS_bad _ h]; exact h
  · right
    have := repS_len (atomS alt s).1 (atomS alt s).2
    omega
theorem seqL_len : ∀ (k : Nat) (l : List Rx) (s : RS), (seqL alt k l s).2.1.length ≤ s.1.length
  | 0, l, s => Nat.le_refl _
  | k + 1, l, s => by
    rw [seqL]
    split
    · exact Nat.le_trans (seqL_len k _ _) (itemS_len ha s)
    · exact Nat.le_refl _
theorem seqS_len (s : RS) : (seqS alt s).2.1.length ≤ s.1.length := seqL_len ha _ _ _
theorem altL_len : ∀ (k : Nat) (l : List Rx) (s : RS), (altL alt k l s).2.1.length ≤ s.1.length
  | 0, l, s => Nat.le_refl _
  | k + 1, l, s => by
    rw [altL]
    have h1 := seqS_len ha (takeS s 124)
    have h2 := takeS_len s 124
    split
    · refine Nat.le_trans (altL_len k _ _) ?_; omega
    · exact Nat.le_refl _
end
theorem altS_len : ∀ (n : Nat) (s : RS), (altS n s).2.1.length ≤ s.1.length
  | 0, s => Nat.le_refl _
  | n + 1, s => by
    rw [altS]
    exact Nat.le_trans (altL_len (altS_len n) _ _ _) (seqS_len (altS_len n) s)

/-! ### the functions -/
theorem cRd_of {xs : List (Nat × Con)} {n f : Nat} {g : RS → Rx × RS} (hx : ∀ p ∈ xs, Holds p) (h : ∀ (l : List UInt8) (b : Bool), l.length ≤ 1000 → l.length ≤ n → Runs (cfg xs) (.enter f [.lf (.ptr 0 0)] [.box [.str, .bool] [.str (mk l), .bool b]]) (cells5 (g (l, b)).1 ++ [.str (mk (g (l, b)).2.1), .bool (g (l, b)).2.2])) : Holds (f, cRd n g) :=
  con_run hx fun aa hp r h0 => by
    unfold cRd at h0
    split at h0
    case h_2 => cases h0
    rename_i s b
    obtain ⟨g1, rfl⟩ := xo h0
    obtain ⟨l, rfl⟩ := str_cases s
    rw [Bool.and_eq_true] at g1
    exact h l b (Nat.le_of_ble_eq_true g1.1) (Nat.le_of_ble_eq_true g1.2)
set_option maxRecDepth 4000 in
theorem u_lits : u8 40 = 40 ∧ u8 41 = 41 ∧ u8 94 = 94 ∧ u8 36 = 36 ∧ u8 46 = 46 ∧ u8 91 = 91 ∧ u8 92 = 92 ∧ u8 98 = 98 ∧ u8 42 = 42 ∧ u8 43 = 43 ∧ u8 63 = 63 ∧ u8 123 = 123 ∧ u8 125 = 125 ∧ u8 44 = 44 ∧ u8 124 = 124 := by decide
theorem atom_holds {n : Nat} (hA : Holds (k_alt n)) : Holds (k_atom n) :=
  cRd_of (xs := [k_next, k_take, k_alt n, k_want, k_of, k_invert, k_branges, k_set, k_escape, k_class]) (hold1 next_holds (hold1 take_holds (hold1 hA (hold1 want_holds (hold1 bof_holds (hold1 invert_holds (hold1 branges_holds (hold1 set_holds (hold1 escape_holds (hold1 class_holds hold0)))))))))) fun l b h1 h2 => by
  refine Runs.by (atom_e · _ _ _) ?_
  obtain ⟨u40, u41, u94, u36, u46, u91, u92, u98, -⟩ := u_lits
  simp only [bl_mk, u40, u41, u94, u36, u46, u91, u92, u98, takeS_pair, size_mk]
  unfold atomS
  have w91 := takeS_len (l, b) 91
  cases h40 : takesS (l, b) 40 with
  | true =>
    have ht := takeS_lt h40
    have hl : ((l, b) : RS).1.length = l.length := rfl
    have g1 : Nat.ble (takeS (l, b) 40).1.length 1000 = true := ev_blt (by omega)
    have g2 : Nat.ble ((takeS (l, b) 40).1.length + 1) n = true := ev_blt (by omega)
    rw [g1, g2]
    exact .ret
  | false =>
    simp only [takeS_no h40, Bool.false_eq_true, if_false, cond_false]
    cases h94 : takesS (l, b) 94 with
    | true => exact .ret
    | false =>
      simp only [takeS_no h94, Bool.false_eq_true, if_false, cond_false]
      cases h36 : takesS (l, b) 36 with
      | true => exact .ret
      | false =>
        simp only [takeS_no h36, Bool.false_eq_true, if_false, cond_false]
        cases h46 : takesS (l, b) 46 with
        | true =>
          simp only [cond_true, if_true]
          rw [show ([[L.int .u8 10, L.int .u8 10]] : List (List L)) = encRs [(10, 10)] from rfl, isRs_enc (by simp), decRs_enc, isB_arr]
          simp only [cond_true]
          refine .go ?_
          refine Runs.by (atom_p12 · _ _ _ _ _ _ _ _ _) ?_
          rw [isB_arr, canR_arr (g := fun j => !(hasI [(10, 10)] (j : Nat))) fun j hj => by rw [getB_arr _ hj]]
          rw [show canR (fun j => !(hasI [(10, 10)] (j : Nat))) 256 = dotR from by unfold dotR; rfl]
          generalize dotR = z
          exact .ret
        | false =>
          simp only [takeS_no h46, Bool.false_eq_true, if_false, cond_false]
          cases h91 : takesS (l, b) 91 with
          | true =>
            have hl : ((l, b) : RS).1.length = l.length := rfl
            have g1 : Nat.ble (takeS (l, b) 91).1.length 1000 = true := ev_blt (by omega)
            rw [g1]
            exact .ret
          | false =>
            simp only [takeS_no h91, Bool.false_eq_true, if_false, cond_false]
            cases h92 : takesS (l, b) 92 with
            | true =>
              simp only [cond_true, if_true]
              generalize hs : takeS (l, b) 92 = s1
              obtain ⟨l1, b1⟩ := s1
              have hb : b1 = b := by have : (takeS (l, b) 92).2 = b := rfl; rw [hs] at this; exact this
              subst hb
              cases h98 : takesS (l1, b1) 98 with
              | true => exact .ret
              | false =>
                simp only [takeS_no h98, Bool.false_eq_true, if_false, cond_false]
                refine .go ?_
                generalize nextS (l1, b1) = c
                refine Runs.by (atom_p19 · _ _ _ _ _ _ _ _ _) ?_
                rw [okB_u8, u8_of]
                refine .go ?_
                refine Runs.by (atom_p20 · _ _ _ _ _ _ _ _ _ _ _) ?_
                rw [okB_u8, u8_of, bl_mk]
                have hfin : ∀ l' b', Runs (cfg [k_next, k_take, k_alt n, k_want, k_of, k_invert, k_branges, k_set, k_escape, k_class]) (atom_q22 (mk l') b' 0 0 0 (fun j => escF c j) [] []) (cells5 (setX (canR (escF c) 256)) ++ [.str (mk l'), .bool b']) := fun l' b' => by
                  refine Runs.by (atom_p22 · _ _ _ _ _ _ _ _ _) ?_
                  rw [isB_arr, canR_arr (g := escF c) fun _ _ => rfl]
                  exact .ret
                cases ho : escOk c with
                | false => exact .go (hfin _ _)
                | true =>
                  simp only [Bool.not_true, cond_false, cond_true, Bool.true_and]
                  cases ht : takesS (l1, b1) c with
                  | false => rw [takeS_no ht]; exact .go (hfin _ _)
                  | true => exact .go (hfin _ _)
            | false =>
              simp only [takeS_no h92, Bool.false_eq_true, if_false, cond_false]
              refine .go ?_
              generalize nextS (l, b) = c
              refine Runs.by (atom_p23 · _ _ _ _ _ _ _ _ _) ?_
              rw [okB_u8, u8_of, bl_mk]
              have hfin : ∀ l' b', Runs (cfg [k_next, k_take, k_alt n, k_want, k_of, k_invert, k_branges, k_set, k_escape, k_class]) (atom_q25 (c.toNat : Int) (mk l') b' 0 0 0 [] []) (cells5 (setX [(c, c)]) ++ [.str (mk l'), .bool b']) := fun l' b' => by
                refine Runs.by (atom_p25 · _ _ _ _ _ _ _ _ _) ?_
                exact .ret
              by_cases hc : classB c = 0
              · rw [ev_ne_f hc]
                simp only [cond_false, cond_true, hc, true_and]
                cases ht : takesS (l, b) c with
                | false => rw [takeS_no ht]; exact .go (hfin _ _)
                | true => exact .go (hfin _ _)
              · rw [ev_ne_t hc]
                simp only [cond_true, hc, false_and, if_false]
                exact .go (hfin _ _)
theorem item_holds {n : Nat} (hA : Holds (k_atom n)) : Holds (k_item n) :=
  cRd_of (xs := [k_atom n, k_take, k_number, k_next, k_want]) (hold1 hA (hold1 take_holds (hold1 number_holds (hold1 next_holds (hold1 want_holds hold0))))) fun l b h1 h2 => by
  refine Runs.by (item_e · _ _ _) ?_
  obtain ⟨-, -, -, -, -, -, -, -, u42, u43, u63, u123, u125, u44, -⟩ := u_lits
  simp only [bl_mk, u42, u43, u63, u123, u125, u44, size_mk]
  rw [ev_blt h1, ev_blt h2]
  unfold itemS
  generalize atomS (altS n) (l, b) = a
  obtain ⟨x, l1, b1⟩ := a
  simp only [takeS_pair, Bool.and_self, cond_true, enc5]
  unfold repS
  cases h42 : takesS (l1, b1) 42 with
  | true => exact .ret
  | false =>
    simp only [takeS_no h42, Bool.false_eq_true, if_false, cond_false]
    cases h43 : takesS (l1, b1) 43 with
    | true => exact .ret
    | false =>
      simp only [takeS_no h43, Bool.false_eq_true, if_false, cond_false]
      cases h63 : takesS (l1, b1) 63 with
      | true => exact .ret
      | false =>
        simp only [takeS_no h63, Bool.false_eq_true, if_false, cond_false]
        cases h123 : takesS (l1, b1) 123 with
        | false =>
          simp only [takeS_no h123, Bool.false_eq_true, if_false, cond_false]
          exact .ret
        | true =>
          simp only [cond_true, if_true]
          have hp : ∀ s : RS, (s.1, s.2) = s := fun _ => rfl
          have hq : ∀ (s : RS) (c : UInt8), ((takeS s c).1, s.2) = takeS s c := fun _ _ => rfl
          simp only [hp, hq]
          generalize hs2 : takeS (l1, b1) 123 = s2
          have hb : b1 = s2.2 := by rw [← hs2]; rfl
          subst hb
          try simp only [hp, hq]
          unfold brS
          have e125 := beq_nat8 (nextS (takeS (numS s2).2 44)) 125 (by decide)
          rw [show ((125 : Nat) : Int) = 125 from rfl, show UInt8.ofNat 125 = 125 from rfl] at e125
          rw [bne, e125]
          cases h44 : takesS (numS s2).2 44 with
          | true =>
            simp only [cond_true, if_true]
            by_cases h : nextS (takeS (numS s2).2 44) = 125
            · rw [decide_eq_true h, if_pos h]; exact .ret
            · rw [decide_eq_false h, if_neg h]; exact .ret
          | false =>
            simp only [takeS_no h44, cond_false, Bool.false_eq_true, if_false]
            exact .ret

theorem fuel_sub {k : Nat} {s s' : RS} (h : fuelOk (k + 1) s) (hb : s.2 = false) (hp : s'.2 = true ∨ s'.1.length + 1 ≤ s.1.length) : fuelOk k s' := by
  unfold fuelOk at h ⊢
  rcases h with ⟨h, _⟩ | h
  · rw [hb] at h; cases h
  · rcases hp with hp | hp
    · exact .inl ⟨hp, by omega⟩
    · right; omega
/-- The end of a list of parts. -/
theorem one_end {C : Cfg} (k : Int) (acc : List Rx) (s : List UInt8) (b : Bool) : RunsF C (fun _ => cond (((acc.map encX).length : Int) == 1)
    (cond (ltI 0 ((acc.map encX).length : Int)) (some [.int .i64 (cI 0 (atL (acc.map encX) 0)), .lst 48 (cX 1 (atL (acc.map encX) 0)), .int .i64 (cI 2 (atL (acc.map encX) 0)), .int .i64 (cI 3 (atL (acc.map encX) 0)), .lst 25 (cX 4 (atL (acc.map encX) 0)), .str (mk s), .bool b]) none)
    (some [.int .i64 k, .lst 48 [], .int .i64 0, .int .i64 0, .lst 25 (acc.map encX), .str (mk s), .bool b])) (cells5 (oneX k acc) ++ [.str (mk s), .bool b]) := by
  rw [List.length_map]
  unfold oneX
  by_cases h : acc.length = 1
  · have e : atL (acc.map encX) 0 = encX (acc.getD 0 default) := xs_at acc (i := 0) (by omega)
    rw [ev_eq_t (by omega), ev_lt_t (by omega), if_pos h, e]
    refine .ret' ?_
    have := el_enc (acc.getD 0 default)
    rw [← enc5 (acc.getD 0 default)] at this ⊢
    unfold cells5
    rw [← this]; rfl
  · rw [ev_eq_f (by omega), if_neg h]
    exact .ret
theorem enc_snoc (l : List Rx) (x : Rx) : l.map encX ++ [encX x] = (l ++ [x]).map encX := by simp
theorem seq_loop {n : Nat} : ∀ (k : Nat) (acc : List Rx) (l : List UInt8) (b : Bool), fuelOk k (l, b) → l.length ≤ 1000 → l.length ≤ n → (b = false → acc.length + l.length ≤ 1000) →
    Runs (cfg [k_item n, k_next]) (seq_q2 (mk l) b 0 0 0 (acc.map encX) [] []) (cells5 (oneX 2 (seqL (altS n) k acc (l, b)).1) ++ [.str (mk (seqL (altS n) k acc (l, b)).2.1), .bool (seqL (altS n) k acc (l, b)).2.2])
  | 0, acc, l, b, hf, _, _, _ => by unfold fuelOk at hf; omega
  | k + 1, acc, l, b, hf, h1, h2, h3 => by
    refine Runs.by (seq_p2 · _ _ _ _ _ _ _ _ _) ?_
    simp only [bl_mk, size_mk, enc5, enc_snoc]
    rw [ev_blt h1, ev_blt h2, seqL]
    have hend := one_end (C := cfg [k_item n, k_next]) 2 acc l b
    have e1 := beq_nat8 (nextS (l, b)) 124 (by decide)
    rw [show ((124 : Nat) : Int) = 124 from rfl, show UInt8.ofNat 124 = 124 from rfl] at e1
    have e2 := beq_nat8 (nextS (l, b)) 41 (by decide)
    rw [show ((41 : Nat) : Int) = 41 from rfl, show UInt8.ofNat 41 = 41 from rfl] at e2
    rw [bne, bne, e1, e2]
    unfold seqGo
    by_cases hl : l = []
    · subst hl
      rw [if_neg (by simp)]
      exact hend
    · have hn : (l == []) = false := by simpa using hl
      rw [hn]
      cases b with
      | true =>
        rw [if_neg (by simp)]
        exact hend
      | false =>
        by_cases c1 : nextS (l, false) = 124
        · rw [decide_eq_true c1, if_neg (by simp [c1])]
          exact hend
        · rw [decide_eq_false c1]
          by_cases c2 : nextS (l, false) = 41
          · rw [decide_eq_true c2, if_neg (by simp [c2])]
            exact hend
          · rw [decide_eq_false c2, if_pos (by simp [c1, c2, hl])]
            have hp := itemS_prog (altS_len n) (l, false)
            have hle := itemS_len (altS_len n) (l, false)
            have hl0 : ((l, false) : RS).1.length = l.length := rfl
            have ha := h3 rfl
            have hr : roomN ((acc.map encX).length + 1) 72 = true := by rw [List.length_map]; exact roomN_t (by omega) (by omega)
            rw [hr]
            generalize hi : itemS (altS n) (l, false) = r at *
            obtain ⟨x, l1, b1⟩ := r
            refine .go (seq_loop k (acc ++ [x]) l1 b1 (fuel_sub hf rfl hp) ?_ ?_ ?_)
            · have : l1.length ≤ l.length := hle
              omega
            · have : l1.length ≤ l.length := hle
              omega
            · intro hb
              rcases hp with hp | hp
              · rw [show ((x, l1, b1).2.2) = b1 from rfl, hb] at hp; cases hp
              · have : l1.length + 1 ≤ l.length := hp
                simp; omega
theorem seq_holds {n : Nat} (hI : Holds (k_item n)) : Holds (k_seq n) := cRd_of (xs := [k_item n, k_next]) (hold1 hI (hold1 next_holds hold0)) fun l b h1 h2 => by
  refine Runs.by (seq_e · _ _ _) ?_
  exact .go (seq_loop (l.length + 2) [] l b (.inr (Nat.le_refl _)) h1 h2 (fun _ => by simpa using h1))
theorem alt_loop {n : Nat} : ∀ (k : Nat) (acc : List Rx) (l : List UInt8) (b : Bool), l.length + 1 ≤ k → l.length ≤ 1000 → l.length ≤ n → acc.length + l.length ≤ 1001 →
    Runs (cfg [k_seq n, k_take]) (alt_q2 (mk l) b 0 0 0 (acc.map encX) [] []) (cells5 (oneX 3 (altL (altS n) k acc (l, b)).1) ++ [.str (mk (altL (altS n) k acc (l, b)).2.1), .bool (altL (altS n) k acc (l, b)).2.2])
  | 0, acc, l, b, hf, _, _, _ => by omega
  | k + 1, acc, l, b, hf, h1, h2, h3 => by
    refine Runs.by (alt_p2 · _ _ _ _ _ _ _ _ _) ?_
    obtain ⟨-, -, -, -, -, -, -, -, -, -, -, -, -, -, u124⟩ := u_lits
    simp only [bl_mk, size_mk, enc5, enc_snoc, u124, takeS_pair]
    rw [altL]
    cases ht : takesS (l, b) 124 with
    | false =>
      simp only [takeS_no ht, cond_false, Bool.false_eq_true, if_false]
      exact one_end 3 acc l b
    | true =>
      have htl := takeS_lt ht
      have hl0 : ((l, b) : RS).1.length = l.length := rfl
      have hle := seqS_len (altS_len n) (takeS (l, b) 124)
      have hr : roomN ((acc.map encX).length + 1) 72 = true := by rw [List.length_map]; exact roomN_t (by omega) (by omega)
      rw [ev_blt (show (takeS (l, b) 124).1.length ≤ 1000 by omega), ev_blt (show (takeS (l, b) 124).1.length ≤ n by omega), hr]
      simp only [Bool.and_self, cond_true, if_true]
      generalize hi : seqS (altS n) (takeS (l, b) 124) = r at *
      obtain ⟨x, l1, b1⟩ := r
      have hl1 : l1.length ≤ (takeS (l, b) 124).1.length := hle
      exact .go (alt_loop k (acc ++ [x]) l1 b1 (by omega) (by omega) (by omega) (by simp; omega))
theorem alt_holds : ∀ n, Holds (k_alt n)
  | 0 => con_run (xs := []) hold0 fun aa hp r h => by
    split at h
    case h_2 => cases h
    obtain ⟨g, rfl⟩ := xo h
    rw [Bool.and_eq_true] at g
    have := Nat.le_of_ble_eq_true g.2
    omega
  | n + 1 => con_run (xs := [k_seq n, k_take]) (hold1 (seq_holds (item_holds (atom_holds (alt_holds n)))) (hold1 take_holds hold0)) fun aa hp r h => by
    split at h
    case h_2 => cases h
    rename_i s b
    obtain ⟨g, rfl⟩ := xo h
    obtain ⟨l, rfl⟩ := str_cases s
    rw [Bool.and_eq_true] at g
    have g1 := Nat.le_of_ble_eq_true g.1
    have g2 := Nat.le_of_ble_eq_true g.2
    rw [size_mk] at g1 g2
    refine Runs.by (alt_e · _ _ _) ?_
    simp only [bl_mk, size_mk, enc5]
    rw [ev_blt g1, ev_blt (show l.length ≤ n by omega), altS]
    have hle := seqS_len (altS_len n) (l, b)
    have hl0 : ((l, b) : RS).1.length = l.length := rfl
    generalize hi : seqS (altS n) (l, b) = r at *
    obtain ⟨x, l1, b1⟩ := r
    have hl1 : l1.length ≤ l.length := hle
    exact .go (alt_loop (l.length + 2) [x] l1 b1 (by omega) (by omega) (by omega) (by simp; omega))
end Go.Ab
namespace Go.Ab
open Go.Proofs

theorem wantS_ok {s : RS} {c : UInt8} (h : (wantS s c).2 = false) : ∃ l, s = (c :: l, false) ∧ wantS s c = (l, false) := by
  unfold wantS at h
  cases ht : takesS s c with
  | false => rw [ht] at h; cases h
  | true =>
    obtain ⟨l, rfl⟩ := takes_cases ht
    exact ⟨l, rfl, by unfold wantS; rw [ht]; rfl⟩
theorem wantS_bad {s : RS} (h : s.2 = true) (c : UInt8) : (wantS s c).2 = true := by unfold wantS; rw [takesS_of_bad h]; rfl
theorem numL_snd : ∀ (k : Nat) (n d : Int) (s : RS), (numL k n d s).2.2.2 = s.2
  | 0, n, d, s => rfl
  | k + 1, n, d, s => by
    rw [numL]
    split
    · split
      · rfl
      · rw [numL_snd k]; rfl
    · rfl
theorem numS_bad {s : RS} (h : s.2 = true) : (numS s).2.2 = true := by
  unfold numS
  rw [numL_snd, h, Bool.or_true]
theorem setL_bad (n : Nat) (first : Bool) {s : RS} (f : Nat → Bool) (h : s.2 = true) : (setL n first s f).1 = s := by
  cases n with
  | zero => rfl
  | succ n => rw [setL, h]; rfl
theorem setS_bad {s : RS} (h : s.2 = true) : (setS s).2.2 = true := by
  unfold setS
  exact wantS_bad (by rw [setL_bad _ _ _ (by exact h)]; exact h) _
theorem brS_bad (x : Rx) {s : RS} (h : s.2 = true) : (brS x s).2.2 = true := by
  unfold brS
  have h1 := numS_bad h
  rw [takesS_of_bad h1]
  exact wantS_bad h1 _
/-- What is read is not wrong only where nothing was wrong. -/
def KeepsBad (alt : RS → Rx × RS) : Prop := ∀ s, s.2 = true → (alt s).2.2 = true
theorem atomS_bad {alt : RS → Rx × RS} {s : RS} (h : s.2 = true) : (atomS alt s).2.2 = true := by
  unfold atomS
  simp only [takesS_of_bad h, Bool.false_eq_true, if_false, and_false]
theorem itemS_bad {alt : RS → Rx × RS} {s : RS} (h : s.2 = true) : (itemS alt s).2.2 = true := by
  unfold itemS
  rw [repS_bad _ (atomS_bad h)]
  exact atomS_bad h
theorem seqGo_bad {s : RS} (h : s.2 = true) : seqGo s = false := by unfold seqGo; rw [h]; simp
theorem seqL_bad {alt : RS → Rx × RS} : ∀ (k : Nat) (l : List Rx) (s : RS), s.2 = true → seqL alt k l s = (l, s)
  | 0, l, s, h => rfl
  | k + 1, l, s, h => by rw [seqL, seqGo_bad h]; rfl
theorem seqS_bad {alt : RS → Rx × RS} {s : RS} (h : s.2 = true) : (seqS alt s).2.2 = true := by
  unfold seqS
  rw [seqL_bad _ _ _ h]; exact h
theorem altL_bad {alt : RS → Rx × RS} : ∀ (k : Nat) (l : List Rx) (s : RS), s.2 = true → altL alt k l s = (l, s)
  | 0, l, s, h => rfl
  | k + 1, l, s, h => by rw [altL, takesS_of_bad h]; rfl
theorem altS_bad : ∀ (n : Nat) {s : RS}, s.2 = true → (altS n s).2.2 = true
  | 0, s, h => h
  | n + 1, s, h => by
    rw [altS]
    rw [altL_bad _ _ _ (seqS_bad h)]
    exact seqS_bad h
theorem not_bad {b : Bool} (h : b ≠ true) : b = false := by cases b <;> simp at h ⊢
/-! ### sizes -/
theorem setsL_app : ∀ {a b : List Rx}, setsL a → setsL b → setsL (a ++ b)
  | [], b, _, h => h
  | x :: a, b, h, h' => by
    rw [setsL] at h
    rw [List.cons_append, setsL]
    exact ⟨h.1, setsL_app h.2 h'⟩
theorem nodesL_app : ∀ a b : List Rx, nodesL (a ++ b) = nodesL a + nodesL b
  | [], b => by simp [nodesL]
  | x :: a, b => by rw [List.cons_append, nodesL, nodesL, nodesL_app a b]; omega
theorem setsL_one {x : Rx} (h : x.sets) : setsL [x] := by rw [setsL, setsL]; exact ⟨h, trivial⟩
theorem sets_mk (k : Int) {s : List (UInt8 × UInt8)} (mn mx : Int) {l : List Rx} (hs : s.length ≤ 999999999000) (hl : setsL l) : (Rx.mk k s mn mx l).sets := by rw [Rx.sets]; exact ⟨hs, hl⟩
theorem sets_leaf (k : Int) : (leafX k).sets := sets_mk _ _ _ (by simp) (by rw [setsL]; trivial)
theorem sets_set {l : List (UInt8 × UInt8)} (h : l.length ≤ 256) : (setX l).sets := sets_mk _ _ _ (by omega) (by rw [setsL]; trivial)
theorem setsL_getD {l : List Rx} (h : setsL l) (hl : l.length = 1) : (l.getD 0 default).sets := setsL_mem h (mem_getD (by omega))
theorem oneX_size (k : Int) {l : List Rx} (h : setsL l) : (oneX k l).nodes ≤ 1 + nodesL l ∧ (oneX k l).sets := by
  unfold oneX
  split
  · rename_i h1
    have := nodesL_mem (mem_getD (l := l) (i := 0) (by omega))
    exact ⟨by omega, setsL_getD h h1⟩
  · exact ⟨by rw [Rx.nodes]; exact Nat.le_refl _, sets_mk _ _ _ (by simp) h⟩
/-- What is read is small. -/
def Small (c : Nat) (alt : RS → Rx × RS) : Prop := ∀ s, (alt s).2.2 = false → (alt s).1.nodes + 4 * (alt s).2.1.length ≤ 4 * s.1.length + c ∧ (alt s).1.sets
theorem leaf_nodes (k : Int) : (leafX k).nodes = 1 := by unfold leafX; rw [Rx.nodes, nodesL]
theorem set_nodes (l : List (UInt8 × UInt8)) : (setX l).nodes = 1 := by unfold setX; rw [Rx.nodes, nodesL]
theorem rep_size (mn mx : Int) {x : Rx} (h : x.sets) : (repX mn mx x).nodes = x.nodes + 1 ∧ (repX mn mx x).sets := by
  unfold repX
  exact ⟨by rw [Rx.nodes, nodesL, nodesL]; omega, sets_mk _ _ _ (by simp) (setsL_one h)⟩
theorem setS_rs (s : RS) : (setS s).1.length ≤ 256 := by unfold setS; exact canR_len _ _
theorem atomS_leaf {alt : RS → Rx × RS} {s : RS} (h : ¬ takesS s 40 = true) : (atomS alt s).1.nodes = 1 ∧ (atomS alt s).1.sets := by
  unfold atomS
  rw [if_neg h]
  split
  · exact ⟨leaf_nodes _, sets_leaf _⟩
  · split
    · exact ⟨leaf_nodes _, sets_leaf _⟩
    · split
      · exact ⟨set_nodes _, sets_set (canR_len _ _)⟩
      · split
        · exact ⟨set_nodes _, sets_set (setS_rs _)⟩
        · split
          · split
            · exact ⟨leaf_nodes _, sets_leaf _⟩
            · exact ⟨set_nodes _, sets_set (canR_len _ _)⟩
          · exact ⟨set_nodes _, sets_set (by simp)⟩
section
variable {alt : RS → Rx × RS} (hl : ∀ s, (alt s).2.1.length ≤ s.1.length) (hs : Small 3 alt)
include hl hs
theorem atomS_small : Small 0 (atomS alt) := fun s hb => by
  rcases atomS_prog hl s with hp | hp
  · rw [hb] at hp; cases hp
  · by_cases h40 : takesS s 40 = true
    · have hb' := hb
      unfold atomS at hb' hp ⊢
      rw [if_pos h40] at hb' hp ⊢
      obtain ⟨l, e1, e2⟩ := wantS_ok hb'
      have hs1 := hs (takeS s 40) (by rw [e1])
      have ht := takeS_lt h40
      rw [e1] at hs1
      refine ⟨?_, hs1.2⟩
      have h1 := hs1.1
      show (alt (takeS s 40)).1.nodes + 4 * (wantS (alt (takeS s 40)).2 41).1.length ≤ _
      rw [e2]
      have e4 : ((41 :: l, false) : RS).1.length = l.length + 1 := rfl
      have e5 : ((l, false) : RS).1.length = l.length := rfl
      omega
    · obtain ⟨q1, q2⟩ := atomS_leaf (alt := alt) h40
      exact ⟨by omega, q2⟩
theorem itemS_small : Small 0 (itemS alt) := fun s hb => by
  have hb' := hb
  unfold itemS at hb' ⊢
  have ha : (atomS alt s).2.2 = false := by
    cases h : (atomS alt s).2.2 with
    | false => rfl
    | true => rw [repS_bad _ h, h] at hb'; cases hb'
  obtain ⟨h1, h2⟩ := atomS_small hl hs s ha
  generalize hA : atomS alt s = a at *
  obtain ⟨x, t⟩ := a
  simp only [] at h1 h2 hb' ⊢
  unfold repS at hb' ⊢
  split
  · rename_i h
    have ht := takeS_lt h
    obtain ⟨r1, r2⟩ := rep_size 0 (-1) h2
    refine ⟨?_, r2⟩
    show (repX 0 (-1) x).nodes + 4 * (takeS t 42).1.length ≤ _
    omega
  · split
    · rename_i h
      have ht := takeS_lt h
      obtain ⟨r1, r2⟩ := rep_size 1 (-1) h2
      refine ⟨?_, r2⟩
      show (repX 1 (-1) x).nodes + 4 * (takeS t 43).1.length ≤ _
      omega
    · split
      · rename_i h
        have ht := takeS_lt h
        obtain ⟨r1, r2⟩ := rep_size 0 1 h2
        refine ⟨?_, r2⟩
        show (repX 0 1 x).nodes + 4 * (takeS t 63).1.length ≤ _
        omega
      · split
        · rename_i h
          have ht := takeS_lt h
          have hbl := brS_len x (takeS t 123)
          have hr : (brS x (takeS t 123)).1.nodes = x.nodes + 1 ∧ (brS x (takeS t 123)).1.sets := by
            unfold brS
            split
            · split
              · exact rep_size _ _ h2
              · exact rep_size _ _ h2
            · exact rep_size _ _ h2
          exact ⟨by omega, hr.2⟩
        · exact ⟨h1, h2⟩
theorem seqL_small : ∀ (k : Nat) (l : List Rx) (s : RS), setsL l → (seqL alt k l s).2.2 = false → nodesL (seqL alt k l s).1 + 4 * (seqL alt k l s).2.1.length ≤ nodesL l + 4 * s.1.length ∧ setsL (seqL alt k l s).1
  | 0, l, s, h, _ => ⟨Nat.le_refl _, h⟩
  | k + 1, l, s, h, hb => by
    rw [seqL] at hb ⊢
    split at hb
    · rename_i hg
      rw [if_pos hg]
      have hi : (itemS alt s).2.2 = false := by
        cases h : (itemS alt s).2.2 with
        | false => rfl
        | true => rw [seqL_bad _ _ _ h, h] at hb; cases hb
      obtain ⟨i1, i2⟩ := itemS_small hl hs s hi
      obtain ⟨q1, q2⟩ := seqL_small k _ _ (setsL_app h (setsL_one i2)) hb
      refine ⟨?_, q2⟩
      rw [nodesL_app, nodesL, nodesL] at q1
      omega
    · rename_i hg
      rw [if_neg hg]
      exact ⟨Nat.le_refl _, h⟩
theorem seqS_small : Small 1 (seqS alt) := fun s hb => by
  unfold seqS at hb ⊢
  obtain ⟨h1, h2⟩ := seqL_small hl hs (s.1.length + 2) [] s (by rw [setsL]; trivial) hb
  obtain ⟨o1, o2⟩ := oneX_size 2 h2
  refine ⟨?_, o2⟩
  rw [nodesL] at h1
  show (oneX 2 _).nodes + 4 * (seqL alt (s.1.length + 2) [] s).2.1.length ≤ _
  omega
theorem altL_small : ∀ (k : Nat) (l : List Rx) (s : RS), setsL l → (altL alt k l s).2.2 = false → nodesL (altL alt k l s).1 + 4 * (altL alt k l s).2.1.length ≤ nodesL l + 4 * s.1.length ∧ setsL (altL alt k l s).1
  | 0, l, s, h, _ => ⟨Nat.le_refl _, h⟩
  | k + 1, l, s, h, hb => by
    rw [altL] at hb ⊢
    split at hb
    · rename_i hg
      rw [if_pos hg]
      have ht := takeS_lt hg
      have hi : (seqS alt (takeS s 124)).2.2 = false := by
        cases h : (seqS alt (takeS s 124)).2.2 with
        | false => rfl
        | true => rw [altL_bad _ _ _ h, h] at hb; cases hb
      obtain ⟨i1, i2⟩ := seqS_small hl hs _ hi
      obtain ⟨q1, q2⟩ := altL_small k _ _ (setsL_app h (setsL_one i2)) hb
      refine ⟨?_, q2⟩
      rw [nodesL_app, nodesL, nodesL] at q1
      omega
    · rename_i hg
      rw [if_neg hg]
      exact ⟨Nat.le_refl _, h⟩
end
theorem altS_small : ∀ n, Small 3 (altS n)
  | 0 => fun s h => ⟨by show (default : Rx).nodes + 4 * s.1.length ≤ _; rw [show (default : Rx).nodes = 1 from rfl]; omega, sets_mk _ _ _ (by simp) (by rw [setsL]; trivial)⟩
  | n + 1 => fun s hb => by
    have ih := altS_small n
    rw [altS] at hb ⊢
    have hi : (seqS (altS n) s).2.2 = false := by
      cases h : (seqS (altS n) s).2.2 with
      | false => rfl
      | true => rw [altL_bad _ _ _ h, h] at hb; cases hb
    obtain ⟨i1, i2⟩ := seqS_small (altS_len n) ih s hi
    obtain ⟨q1, q2⟩ := altL_small (altS_len n) ih (s.1.length + 2) _ _ (setsL_one i2) hb
    obtain ⟨o1, o2⟩ := oneX_size 3 q2
    refine ⟨?_, o2⟩
    rw [nodesL, nodesL] at q1
    generalize altL (altS n) (s.1.length + 2) [(seqS (altS n) s).1] (seqS (altS n) s).2 = z at *
    show (oneX 3 z.1).nodes + 4 * z.2.1.length ≤ _
    omega
theorem altS_ok {n : Nat} {l : List UInt8} (h : (altS (n + 1) (l, false)).2.2 = false) (hl : l.length ≤ 1000) : (altS (n + 1) (l, false)).1.ok ∧ (altS (n + 1) (l, false)).1.nodes ≤ 4 * l.length + 3 := by
  obtain ⟨h1, h2⟩ := altS_small (n + 1) (l, false) h
  have hl0 : ((l, false) : RS).1.length = l.length := rfl
  exact ⟨⟨h2, by omega⟩, by omega⟩
theorem Parse_holds : Holds k_Parse := con_run (xs := [k_alt 301, k_Right]) (hold1 (alt_holds 301) (hold1 Right_holds hold0)) fun aa hp r h => by
  split at h
  case h_2 => cases h
  rename_i s
  obtain ⟨g, rfl⟩ := xo h
  obtain ⟨l, rfl⟩ := str_cases s
  refine Runs.by (Parse_e · _) ?_
  simp only [bl_mk, size_mk]
  unfold parseP
  by_cases h1 : 300 < l.length
  · rw [ev_lt_t (by omega), if_pos h1]; exact .ret
  · rw [ev_lt_f (by omega), if_neg h1, ev_blt (show l.length ≤ 1000 by omega), ev_blt (show l.length + 1 ≤ 301 by omega)]
    simp only [Bool.and_self, cond_true, cond_false]
    have hok := altS_ok (n := 300) (l := l)
    cases hb : (altS 301 (l, false)).2.2 with
    | true => rw [if_pos (.inl rfl)]; exact .ret
    | false =>
      obtain ⟨k1, k2⟩ := hok hb (by omega)
      by_cases he : (altS 301 (l, false)).2.1 = []
      · rw [he, if_neg (by simp)]
        have hlv := ok_lev k1
        generalize (altS 301 (l, false)).1 = x at *
        rw [dec5, is5 k1 hlv]
        simp only [cond_false, cond_true, beq_self_eq_true, Bool.not_true]
        by_cases hr : rightS x = 0
        · rw [ev_ne_f hr, if_neg (by simp [hr])]; exact .ret
        · rw [ev_ne_t hr, if_pos hr]; exact .ret
      · rw [if_pos (.inr he)]
        have : ((altS 301 (l, false)).2.1 == []) = false := by simpa using he
        rw [this]
        exact .ret
end Go.Ab
namespace Go.Ab
open Go.Proofs

noncomputable def k_one : Nat × Con := (n_codesearchlaw08_one, fun
  | [.lf (.int .u8 c)], [] => some (true, [.int .i64 1, .lst 48 [[.int .u8 c, .int .u8 c]], .int .i64 0, .int .i64 0, .lst 25 []])
  | _, _ => none)
def printsP (s want : List UInt8) : Bool := decide ((parseP s).2 = 0) && (decide ((printP (parseP s).1).2 = 0) && decide ((printP (parseP s).1).1 = want))
noncomputable def k_prints : Nat × Con := (n_codesearchlaw08_prints, fun
  | [.lf (.str s), .lf (.str t)], [] => some (Nat.ble s.size 9223372036854775807, [.bool (printsP (bl s) (bl t))])
  | _, _ => none)
noncomputable def k_refused : Nat × Con := (n_codesearchlaw08_refused, fun
  | [.lf (.str s), .lf (.int .i64 w)], [] => some (Nat.ble s.size 9223372036854775807, [.bool ((parseP (bl s)).2 == w)])
  | _, _ => none)
/-- A whole expression, any. -/
noncomputable def k_alive : Nat × Con := (n_codesearchlaw08_alive, fun
  | [], [] => some (true, [.bool true])
  | _, _ => none)
end Go.Ab
namespace Go.Ab
open Go.Proofs
noncomputable def k_ParseA (p q : Rx) : Nat × Con := (n_regex_Parse, fun
  | [.lf (.str s)], [] => cond (bl s == [97, 98, 43, 99]) (some (true, cells5 p ++ [.int .i64 0])) (cond (bl s == [91, 97, 45, 99, 93]) (some (true, cells5 q ++ [.int .i64 0])) none)
  | _, _ => none)
/-- Any answer at the table's strings alone. -/
def tabP : List (List UInt8 × List UInt8) := [([91, 99, 45, 101, 97, 45, 100, 93], [91, 97, 45, 101, 93]), ([91, 94, 92, 110, 93], [46]), ([91, 97, 93], [97]), ([97, 123, 48, 44, 125], [97, 42]), ([40, 41, 42], [40, 41, 42])]
noncomputable def k_printsA : Nat × Con := (n_codesearchlaw08_prints, fun
  | [.lf (.str s), .lf (.str t)], [] => cond (tabP.any fun p => p.1 == bl s && p.2 == bl t) (some (true, [.bool true])) none
  | _, _ => none)
def tabR : List (List UInt8 × Int) := [([97, 42, 42], 3), ([91, 98, 45, 97, 93], 3), ([97, 123, 48, 49, 125], 3), ([97, 123, 48, 125], 2), ([97, 123, 51, 44, 50, 125], 2)]
noncomputable def k_refusedA : Nat × Con := (n_codesearchlaw08_refused, fun
  | [.lf (.str s), .lf (.int .i64 w)], [] => cond (tabR.any fun p => p.1 == bl s && p.2 == w) (some (true, [.bool true])) none
  | _, _ => none)
end Go.Ab
namespace Go.Ab
open Go.Proofs
/-! codesearch/codesearchlaw08.one -/
theorem one_e (G : Req → R) (c0 : Int) : runB (cfg []) G (.enter 27 [(.lf (.int IntKind.u8 (c0)))] []) =
  (some [(.int IntKind.i64 (1)), (.lst 48 [[(.int IntKind.u8 (c0)), (.int IntKind.u8 (c0))]]), (.int IntKind.i64 (0)), (.int IntKind.i64 (0)), (.lst 25 [])]) := by kernel_rfl

/-! codesearch/codesearchlaw08.prints -/
theorem prints_e (G : Req → R) (s0 : ByteArray) (want1 : ByteArray) : runB (cfg [k_Parse, k_Print]) G (.enter 28 [(.lf (.str (s0))), (.lf (.str (want1)))] []) =
  (cond (Nat.ble (ByteArray.size s0) 9223372036854775807)
   (cond (Prod.snd (parseP (bl s0)) != 0)
    (some [(.bool (false))])
    (cond (isX [L.int IntKind.i64 (Rx.kind (Prod.fst (parseP (bl s0)))), L.lst 48 (encRs (Rx.set (Prod.fst (parseP (bl s0))))), L.int IntKind.i64 (Rx.mn (Prod.fst (parseP (bl s0)))), L.int IntKind.i64 (Rx.mx (Prod.fst (parseP (bl s0)))), L.lst 25 (List.map encX (Rx.subs (Prod.fst (parseP (bl s0)))))] 1000000000000)
     (cond (Prod.snd (printP (decX [L.int IntKind.i64 (Rx.kind (Prod.fst (parseP (bl s0)))), L.lst 48 (encRs (Rx.set (Prod.fst (parseP (bl s0))))), L.int IntKind.i64 (Rx.mn (Prod.fst (parseP (bl s0)))), L.int IntKind.i64 (Rx.mx (Prod.fst (parseP (bl s0)))), L.lst 25 (List.map encX (Rx.subs (Prod.fst (parseP (bl s0)))))])) == 0)
      (some [(.bool (bl (mk (Prod.fst (printP (decX [L.int IntKind.i64 (Rx.kind (Prod.fst (parseP (bl s0)))), L.lst 48 (encRs (Rx.set (Prod.fst (parseP (bl s0))))), L.int IntKind.i64 (Rx.mn (Prod.fst (parseP (bl s0)))), L.int IntKind.i64 (Rx.mx (Prod.fst (parseP (bl s0)))), L.lst 25 (List.map encX (Rx.subs (Prod.fst (parseP (bl s0)))))])))) == bl want1))])
      (some [(.bool (false))]))
     none))
   none) := by kernel_rfl

/-! codesearch/codesearchlaw08.refused -/
theorem refused_e (G : Req → R) (s0 : ByteArray) (want1 : Int) : runB (cfg [k_Parse]) G (.enter 29 [(.lf (.str (s0))), (.lf (.int IntKind.i64 (want1)))] []) =
  (cond (Nat.ble (ByteArray.size s0) 9223372036854775807)
   (some [(.bool (Prod.snd (parseP (bl s0)) == want1))])
   none) := by kernel_rfl

/-! codesearch/codesearchlaw08.alive -/
noncomputable def alive_q3 (e2 : Int) (h0_0 : Int) (h0_1 : List (List L)) (h0_2 : Int) (h0_3 : Int) (h0_4 : List (List L)) (h1_0 : Int) (h1_2 : Int) (h1_3 : Int) (h2 : List (List L)) (h3 : List (List L)) : Req := .point 10 [] (todoAt Tryd.prog 10 3) ⟨[an, (.lf (.ptr 0 0)), (.lf (.int IntKind.i64 e2)), (.lf (.ptr 1 0)), an, an, an, an, an, an, an, an, an, an, an, an, an, an, an, an, an, an, an, an, an, an, an, an, an, an, an, an, an, an, an, an, an, an, an, an, an, an, an, an, an, an, an, an, an, an, an, an, an, an, an, an, an, an, an, an, an, an, an, an, an, an, an, an, an, an, an, an, an, an, an, an, an, an, an, an, an, an, an, an, an, an, an, an, an, an, an, an, an, an, an, an, an, an, an, an, an, an, an, an, an, an, an, an, an, an, an, an, an, an], [(.box [(.int IntKind.i64), (.sl 48), (.int IntKind.i64), (.int IntKind.i64), (.sl 25)] [(.int IntKind.i64 h0_0), (.lst 48 h0_1), (.int IntKind.i64 h0_2), (.int IntKind.i64 h0_3), (.lst 25 h0_4)]), (.box [(.int IntKind.i64), (.sl 48), (.int IntKind.i64), (.int IntKind.i64), (.sl 25)] [(.int IntKind.i64 h1_0), (.row 2), (.int IntKind.i64 h1_2), (.int IntKind.i64 h1_3), (.row 3)]), (.row 48 h2 true), (.row 25 h3 true)]⟩
noncomputable def alive_q5 (h0_0 : Int) (h0_1 : List (List L)) (h0_2 : Int) (h0_3 : Int) (h0_4 : List (List L)) : Req := .point 10 [] (todoAt Tryd.prog 10 5) ⟨[an, (.lf (.ptr 0 0)), an, an, an, an, an, an, an, an, an, an, an, an, an, an, an, an, an, an, an, an, an, an, an, an, an, an, an, an, an, an, an, an, an, an, an, an, an, an, an, an, an, an, an, an, an, an, an, an, an, an, an, an, an, an, an, an, an, an, an, an, an, an, an, an, an, an, an, an, an, an, an, an, an, an, an, an, an, an, an, an, an, an, an, an, an, an, an, an, an, an, an, an, an, an, an, an, an, an, an, an, an, an, an, an, an, an, an, an, an, an, an, an], [(.box [(.int IntKind.i64), (.sl 48), (.int IntKind.i64), (.int IntKind.i64), (.sl 25)] [(.int IntKind.i64 h0_0), (.lst 48 h0_1), (.int IntKind.i64 h0_2), (.int IntKind.i64 h0_3), (.lst 25 h0_4)])]⟩
noncomputable def alive_q6 (least4 : Int) (most5 : Int) (h0_0 : Int) (h0_1 : List (List L)) (h0_2 : Int) (h0_3 : Int) (h0_4 : List (List L)) : Req := .point 10 [] (todoAt Tryd.prog 10 6) ⟨[an, (.lf (.ptr 0 0)), an, an, (.lf (.int IntKind.i64 least4)), (.lf (.int IntKind.i64 most5)), an, an, an, an, an, an, an, an, an, an, an, an, an, an, an, an, an, an, an, an, an, an, an, an, an, an, an, an, an, an, an, an, an, an, an, an, an, an, an, an, an, an, an, an, an, an, an, an, an, an, an, an, an, an, an, an, an, an, an, an, an, an, an, an, an, an, an, an, an, an, an, an, an, an, an, an, an, an, an, an, an, an, an, an, an, an, an, an, an, an, an, an, an, an, an, an, an, an, an, an, an, an, an, an, an, an, an, an], [(.box [(.int IntKind.i64), (.sl 48), (.int IntKind.i64), (.int IntKind.i64), (.sl 25)] [(.int IntKind.i64 h0_0), (.lst 48 h0_1), (.int IntKind.i64 h0_2), (.int IntKind.i64 h0_3), (.lst 25 h0_4)])]⟩
noncomputable def alive_q8 (h0_0 : Int) (h0_1 : List (List L)) (h0_2 : Int) (h0_3 : Int) (h0_4 : List (List L)) : Req := .point 10 [] (todoAt Tryd.prog 10 8) ⟨[an, (.lf (.ptr 0 0)), an, an, an, an, an, an, an, an, an, an, an, an, an, an, an, an, an, an, an, an, an, an, an, an, an, an, an, an, an, an, an, an, an, an, an, an, an, an, an, an, an, an, an, an, an, an, an, an, an, an, an, an, an, an, an, an, an, an, an, an, an, an, an, an, an, an, an, an, an, an, an, an, an, an, an, an, an, an, an, an, an, an, an, an, an, an, an, an, an, an, an, an, an, an, an, an, an, an, an, an, an, an, an, an, an, an, an, an, an, an, an, an], [(.box [(.int IntKind.i64), (.sl 48), (.int IntKind.i64), (.int IntKind.i64), (.sl 25)] [(.int IntKind.i64 h0_0), (.lst 48 h0_1), (.int IntKind.i64 h0_2), (.int IntKind.i64 h0_3), (.lst 25 h0_4)])]⟩
noncomputable def alive_q10 (h0_0 : Int) (h0_1 : List (List L)) (h0_2 : Int) (h0_3 : Int) (h0_4 : List (List L)) : Req := .point 10 [] (todoAt Tryd.prog 10 10) ⟨[an, (.lf (.ptr 0 0)), an, an, an, an, an, an, an, an, an, an, an, an, an, an, an, an, an, an, an, an, an, an, an, an, an, an, an, an, an, an, an, an, an, an, an, an, an, an, an, an, an, an, an, an, an, an, an, an, an, an, an, an, an, an, an, an, an, an, an, an, an, an, an, an, an, an, an, an, an, an, an, an, an, an, an, an, an, an, an, an, an, an, an, an, an, an, an, an, an, an, an, an, an, an, an, an, an, an, an, an, an, an, an, an, an, an, an, an, an, an, an, an], [(.box [(.int IntKind.i64), (.sl 48), (.int IntKind.i64), (.int IntKind.i64), (.sl 25)] [(.int IntKind.i64 h0_0), (.lst 48 h0_1), (.int IntKind.i64 h0_2), (.int IntKind.i64 h0_3), (.lst 25 h0_4)])]⟩
noncomputable def alive_q11 (f7 : Int) (h0_0 : Int) (h0_1 : List (List L)) (h0_2 : Int) (h0_3 : Int) (h0_4 : List (List L)) (h1_0 : Int) (h1_1 : List (List L)) (h1_2 : Int) (h1_3 : Int) (h1_4 : List (List L)) : Req := .point 10 [] (todoAt Tryd.prog 10 11) ⟨[an, (.lf (.ptr 0 0)), an, an, an, an, (.lf (.ptr 1 0)), (.lf (.int IntKind.i64 f7)), an, an, an, an, an, an, an, an, an, an, an, an, an, an, an, an, an, an, an, an, an, an, an, an, an, an, an, an, an, an, an, an, an, an, an, an, an, an, an, an, an, an, an, an, an, an, an, an, an, an, an, an, an, an, an, an, an, an, an, an, an, an, an, an, an, an, an, an, an, an, an, an, an, an, an, an, an, an, an, an, an, an, an, an, an, an, an, an, an, an, an, an, an, an, an, an, an, an, an, an, an, an, an, an, an, an], [(.box [(.int IntKind.i64), (.sl 48), (.int IntKind.i64), (.int IntKind.i64), (.sl 25)] [(.int IntKind.i64 h0_0), (.lst 48 h0_1), (.int IntKind.i64 h0_2), (.int IntKind.i64 h0_3), (.lst 25 h0_4)]), (.box [(.int IntKind.i64), (.sl 48), (.int IntKind.i64), (.int IntKind.i64), (.sl 25)] [(.int IntKind.i64 h1_0), (.lst 48 h1_1), (.int IntKind.i64 h1_2), (.int IntKind.i64 h1_3), (.lst 25 h1_4)])]⟩
noncomputable def alive_q12 (f7 : Int) (s8 : ByteArray) (g9 : Int) (h0_0 : Int) (h0_1 : List (List L)) (h0_2 : Int) (h0_3 : Int) (h0_4 : List (List L)) (h1_0 : Int) (h1_1 : List (List L)) (h1_2 : Int) (h1_3 : Int) (h1_4 : List (List L)) : Req := .point 10 [] (todoAt Tryd.prog 10 12) ⟨[an, (.lf (.ptr 0 0)), an, an, an, an, (.lf (.ptr 1 0)), (.lf (.int IntKind.i64 f7)), (.lf (.str s8)), (.lf (.int IntKind.i64 g9)), an, an, an, an, an, an, an, an, an, an, an, an, an, an, an, an, an, an, an, an, an, an, an, an, an, an, an, an, an, an, an, an, an, an, an, an, an, an, an, an, an, an, an, an, an, an, an, an, an, an, an, an, an, an, an, an, an, an, an, an, an, an, an, an, an, an, an, an, an, an, an, an, an, an, an, an, an, an, an, an, an, an, an, an, an, an, an, an, an, an, an, an, an, an, an, an, an, an, an, an, an, an, an, an], [(.box [(.int IntKind.i64), (.sl 48), (.int IntKind.i64), (.int IntKind.i64), (.sl 25)] [(.int IntKind.i64 h0_0), (.lst 48 h0_1), (.int IntKind.i64 h0_2), (.int IntKind.i64 h0_3), (.lst 25 h0_4)]), (.box [(.int IntKind.i64), (.sl 48), (.int IntKind.i64), (.int IntKind.i64), (.sl 25)] [(.int IntKind.i64 h1_0), (.lst 48 h1_1), (.int IntKind.i64 h1_2), (.int IntKind.i64 h1_3), (.lst 25 h1_4)])]⟩
theorem alive_e (G : Req → R) (p : Rx) (q : Rx) : runB (cfg [(k_ParseA p q), k_one, (k_rSame 1000000000000), (k_Lens 1000000000000), k_printsA, k_refusedA, (k_Fold 1000000000000), k_Print, k_Has, (k_Same 1000000000000)]) G (.enter 10 [] []) =
  (G (alive_q3 0 (Rx.kind p) (encRs (Rx.set p)) (Rx.mn p) (Rx.mx p) (List.map encX (Rx.subs p)) 4 1 (-1) [] ([[L.int IntKind.i64 1, L.lst 48 [[L.int IntKind.u8 98, L.int IntKind.u8 98]], L.int IntKind.i64 0, L.int IntKind.i64 0, L.lst 25 []]]))) := by kernel_rfl
theorem alive_p3 (G : Req → R) (p : Rx) (q : Rx) (e2 : Int) (h0_0 : Int) (h0_1 : List (List L)) (h0_2 : Int) (h0_3 : Int) (h0_4 : List (List L)) (h1_0 : Int) (h1_2 : Int) (h1_3 : Int) (h2 : List (List L)) (h3 : List (List L)) : runB (cfg [(k_ParseA p q), k_one, (k_rSame 1000000000000), (k_Lens 1000000000000), k_printsA, k_refusedA, (k_Fold 1000000000000), k_Print, k_Has, (k_Same 1000000000000)]) G (alive_q3 e2 h0_0 h0_1 h0_2 h0_3 h0_4 h1_0 h1_2 h1_3 h2 h3) =
  (both
   (cond (e2 != 0)
    (both
     (dupN 1
      (some [(.bool (false))]))
     (some [(.bool (false))]))
    (both
     (dupN 1
      (cond (isX [L.int IntKind.i64 h0_0, L.lst 48 h0_1, L.int IntKind.i64 h0_2, L.int IntKind.i64 h0_3, L.lst 25 h0_4] 1000000000000 && isX [L.int IntKind.i64 2, L.lst 48 [], L.int IntKind.i64 0, L.int IntKind.i64 0, L.lst 25 [[L.int IntKind.i64 1, L.lst 48 [[L.int IntKind.u8 97, L.int IntKind.u8 97]], L.int IntKind.i64 0, L.int IntKind.i64 0, L.lst 25 []], [L.int IntKind.i64 h1_0, L.lst 48 h2, L.int IntKind.i64 h1_2, L.int IntKind.i64 h1_3, L.lst 25 h3], [L.int IntKind.i64 1, L.lst 48 [[L.int IntKind.u8 99, L.int IntKind.u8 99]], L.int IntKind.i64 0, L.int IntKind.i64 0, L.lst 25 []]]] 1000000000000)
       (cond (!sameX (decX [L.int IntKind.i64 h0_0, L.lst 48 h0_1, L.int IntKind.i64 h0_2, L.int IntKind.i64 h0_3, L.lst 25 h0_4]) (decX [L.int IntKind.i64 2, L.lst 48 [], L.int IntKind.i64 0, L.int IntKind.i64 0, L.lst 25 [[L.int IntKind.i64 1, L.lst 48 [[L.int IntKind.u8 97, L.int IntKind.u8 97]], L.int IntKind.i64 0, L.int IntKind.i64 0, L.lst 25 []], [L.int IntKind.i64 h1_0, L.lst 48 h2, L.int IntKind.i64 h1_2, L.int IntKind.i64 h1_3, L.lst 25 h3], [L.int IntKind.i64 1, L.lst 48 [[L.int IntKind.u8 99, L.int IntKind.u8 99]], L.int IntKind.i64 0, L.int IntKind.i64 0, L.lst 25 []]]]))
        (some [(.bool (false))])
        (G (alive_q5 h0_0 h0_1 h0_2 h0_3 h0_4)))
       none))
     (cond (isX [L.int IntKind.i64 h0_0, L.lst 48 h0_1, L.int IntKind.i64 h0_2, L.int IntKind.i64 h0_3, L.lst 25 h0_4] 1000000000000 && isX [L.int IntKind.i64 2, L.lst 48 [], L.int IntKind.i64 0, L.int IntKind.i64 0, L.lst 25 [[L.int IntKind.i64 1, L.lst 48 [[L.int IntKind.u8 97, L.int IntKind.u8 97]], L.int IntKind.i64 0, L.int IntKind.i64 0, L.lst 25 []], [L.int IntKind.i64 h1_0, L.lst 48 h2, L.int IntKind.i64 h1_2, L.int IntKind.i64 h1_3, L.lst 25 h3], [L.int IntKind.i64 1, L.lst 48 [[L.int IntKind.u8 99, L.int IntKind.u8 99]], L.int IntKind.i64 0, L.int IntKind.i64 0, L.lst 25 []]]] 1000000000000)
      (cond (!sameX (decX [L.int IntKind.i64 h0_0, L.lst 48 h0_1, L.int IntKind.i64 h0_2, L.int IntKind.i64 h0_3, L.lst 25 h0_4]) (decX [L.int IntKind.i64 2, L.lst 48 [], L.int IntKind.i64 0, L.int IntKind.i64 0, L.lst 25 [[L.int IntKind.i64 1, L.lst 48 [[L.int IntKind.u8 97, L.int IntKind.u8 97]], L.int IntKind.i64 0, L.int IntKind.i64 0, L.lst 25 []], [L.int IntKind.i64 h1_0, L.lst 48 h2, L.int IntKind.i64 h1_2, L.int IntKind.i64 h1_3, L.lst 25 h3], [L.int IntKind.i64 1, L.lst 48 [[L.int IntKind.u8 99, L.int IntKind.u8 99]], L.int IntKind.i64 0, L.int IntKind.i64 0, L.lst 25 []]]]))
       (some [(.bool (false))])
       (G (alive_q5 h0_0 h0_1 h0_2 h0_3 h0_4)))
      none)))
   (both
    (cond (e2 != 0)
     (both
      (dupN 1
       (some [(.bool (false))]))
      (both
       (dupN 2
        (some [(.bool (false))]))
       (dupN 1
        (some [(.bool (false))]))))
     (both
      (dupN 1
       (cond (isX [L.int IntKind.i64 h0_0, L.lst 48 h0_1, L.int IntKind.i64 h0_2, L.int IntKind.i64 h0_3, L.lst 25 h0_4] 1000000000000 && isX [L.int IntKind.i64 2, L.lst 48 [], L.int IntKind.i64 0, L.int IntKind.i64 0, L.lst 25 [[L.int IntKind.i64 1, L.lst 48 [[L.int IntKind.u8 97, L.int IntKind.u8 97]], L.int IntKind.i64 0, L.int IntKind.i64 0, L.lst 25 []], [L.int IntKind.i64 h1_0, L.lst 48 h2, L.int IntKind.i64 h1_2, L.int IntKind.i64 h1_3, L.lst 25 h3], [L.int IntKind.i64 1, L.lst 48 [[L.int IntKind.u8 99, L.int IntKind.u8 99]], L.int IntKind.i64 0, L.int IntKind.i64 0, L.lst 25 []]]] 1000000000000)
        (cond (!sameX (decX [L.int IntKind.i64 h0_0, L.lst 48 h0_1, L.int IntKind.i64 h0_2, L.int IntKind.i64 h0_3, L.lst 25 h0_4]) (decX [L.int IntKind.i64 2, L.lst 48 [], L.int IntKind.i64 0, L.int IntKind.i64 0, L.lst 25 [[L.int IntKind.i64 1, L.lst 48 [[L.int IntKind.u8 97, L.int IntKind.u8 97]], L.int IntKind.i64 0, L.int IntKind.i64 0, L.lst 25 []], [L.int IntKind.i64 h1_0, L.lst 48 h2, L.int IntKind.i64 h1_2, L.int IntKind.i64 h1_3, L.lst 25 h3], [L.int IntKind.i64 1, L.lst 48 [[L.int IntKind.u8 99, L.int IntKind.u8 99]], L.int IntKind.i64 0, L.int IntKind.i64 0, L.lst 25 []]]]))
         (some [(.bool (false))])
         (G (alive_q5 h0_0 h0_1 h0_2 h0_3 h0_4)))
        none))
      (both
       (dupN 2
        (cond (isX [L.int IntKind.i64 h0_0, L.lst 48 h0_1, L.int IntKind.i64 h0_2, L.int IntKind.i64 h0_3, L.lst 25 h0_4] 1000000000000 && isX [L.int IntKind.i64 2, L.lst 48 [], L.int IntKind.i64 0, L.int IntKind.i64 0, L.lst 25 [[L.int IntKind.i64 1, L.lst 48 [[L.int IntKind.u8 97, L.int IntKind.u8 97]], L.int IntKind.i64 0, L.int IntKind.i64 0, L.lst 25 []], [L.int IntKind.i64 h1_0, L.lst 48 h2, L.int IntKind.i64 h1_2, L.int IntKind.i64 h1_3, L.lst 25 h3], [L.int IntKind.i64 1, L.lst 48 [[L.int IntKind.u8 99, L.int IntKind.u8 99]], L.int IntKind.i64 0, L.int IntKind.i64 0, L.lst 25 []]]] 1000000000000)
         (cond (!sameX (decX [L.int IntKind.i64 h0_0, L.lst 48 h0_1, L.int IntKind.i64 h0_2, L.int IntKind.i64 h0_3, L.lst 25 h0_4]) (decX [L.int IntKind.i64 2, L.lst 48 [], L.int IntKind.i64 0, L.int IntKind.i64 0, L.lst 25 [[L.int IntKind.i64 1, L.lst 48 [[L.int IntKind.u8 97, L.int IntKind.u8 97]], L.int IntKind.i64 0, L.int IntKind.i64 0, L.lst 25 []], [L.int IntKind.i64 h1_0, L.lst 48 h2, L.int IntKind.i64 h1_2, L.int IntKind.i64 h1_3, L.lst 25 h3], [L.int IntKind.i64 1, L.lst 48 [[L.int IntKind.u8 99, L.int IntKind.u8 99]], L.int IntKind.i64 0, L.int IntKind.i64 0, L.lst 25 []]]]))
          (some [(.bool (false))])
          (G (alive_q5 h0_0 h0_1 h0_2 h0_3 h0_4)))
         none))
       (dupN 1
        (cond (isX [L.int IntKind.i64 h0_0, L.lst 48 h0_1, L.int IntKind.i64 h0_2, L.int IntKind.i64 h0_3, L.lst 25 h0_4] 1000000000000 && isX [L.int IntKind.i64 2, L.lst 48 [], L.int IntKind.i64 0, L.int IntKind.i64 0, L.lst 25 [[L.int IntKind.i64 1, L.lst 48 [[L.int IntKind.u8 97, L.int IntKind.u8 97]], L.int IntKind.i64 0, L.int IntKind.i64 0, L.lst 25 []], [L.int IntKind.i64 h1_0, L.lst 48 h2, L.int IntKind.i64 h1_2, L.int IntKind.i64 h1_3, L.lst 25 h3], [L.int IntKind.i64 1, L.lst 48 [[L.int IntKind.u8 99, L.int IntKind.u8 99]], L.int IntKind.i64 0, L.int IntKind.i64 0, L.lst 25 []]]] 1000000000000)
         (cond (!sameX (decX [L.int IntKind.i64 h0_0, L.lst 48 h0_1, L.int IntKind.i64 h0_2, L.int IntKind.i64 h0_3, L.lst 25 h0_4]) (decX [L.int IntKind.i64 2, L.lst 48 [], L.int IntKind.i64 0, L.int IntKind.i64 0, L.lst 25 [[L.int IntKind.i64 1, L.lst 48 [[L.int IntKind.u8 97, L.int IntKind.u8 97]], L.int IntKind.i64 0, L.int IntKind.i64 0, L.lst 25 []], [L.int IntKind.i64 h1_0, L.lst 48 h2, L.int IntKind.i64 h1_2, L.int IntKind.i64 h1_3, L.lst 25 h3], [L.int IntKind.i64 1, L.lst 48 [[L.int IntKind.u8 99, L.int IntKind.u8 99]], L.int IntKind.i64 0, L.int IntKind.i64 0, L.lst 25 []]]]))
          (some [(.bool (false))])
          (G (alive_q5 h0_0 h0_1 h0_2 h0_3 h0_4)))
         none)))))
    (cond (e2 != 0)
     (dupN 3
      (some [(.bool (false))]))
     (dupN 3
      (cond (isX [L.int IntKind.i64 h0_0, L.lst 48 h0_1, L.int IntKind.i64 h0_2, L.int IntKind.i64 h0_3, L.lst 25 h0_4] 1000000000000 && isX [L.int IntKind.i64 2, L.lst 48 [], L.int IntKind.i64 0, L.int IntKind.i64 0, L.lst 25 [[L.int IntKind.i64 1, L.lst 48 [[L.int IntKind.u8 97, L.int IntKind.u8 97]], L.int IntKind.i64 0, L.int IntKind.i64 0, L.lst 25 []], [L.int IntKind.i64 h1_0, L.lst 48 h2, L.int IntKind.i64 h1_2, L.int IntKind.i64 h1_3, L.lst 25 h3], [L.int IntKind.i64 1, L.lst 48 [[L.int IntKind.u8 99, L.int IntKind.u8 99]], L.int IntKind.i64 0, L.int IntKind.i64 0, L.lst 25 []]]] 1000000000000)
       (cond (!sameX (decX [L.int IntKind.i64 h0_0, L.lst 48 h0_1, L.int IntKind.i64 h0_2, L.int IntKind.i64 h0_3, L.lst 25 h0_4]) (decX [L.int IntKind.i64 2, L.lst 48 [], L.int IntKind.i64 0, L.int IntKind.i64 0, L.lst 25 [[L.int IntKind.i64 1, L.lst 48 [[L.int IntKind.u8 97, L.int IntKind.u8 97]], L.int IntKind.i64 0, L.int IntKind.i64 0, L.lst 25 []], [L.int IntKind.i64 h1_0, L.lst 48 h2, L.int IntKind.i64 h1_2, L.int IntKind.i64 h1_3, L.lst 25 h3], [L.int IntKind.i64 1, L.lst 48 [[L.int IntKind.u8 99, L.int IntKind.u8 99]], L.int IntKind.i64 0, L.int IntKind.i64 0, L.lst 25 []]]]))
        (some [(.bool (false))])
        (G (alive_q5 h0_0 h0_1 h0_2 h0_3 h0_4)))
       none))))) := by kernel_rfl
theorem alive_p5 (G : Req → R) (p : Rx) (q : Rx) (h0_0 : Int) (h0_1 : List (List L)) (h0_2 : Int) (h0_3 : Int) (h0_4 : List (List L)) : runB (cfg [(k_ParseA p q), k_one, (k_rSame 1000000000000), (k_Lens 1000000000000), k_printsA, k_refusedA, (k_Fold 1000000000000), k_Print, k_Has, (k_Same 1000000000000)]) G (alive_q5 h0_0 h0_1 h0_2 h0_3 h0_4) =
  (cond (isX [L.int IntKind.i64 h0_0, L.lst 48 h0_1, L.int IntKind.i64 h0_2, L.int IntKind.i64 h0_3, L.lst 25 h0_4] 1000000000000 && nodeS (decX [L.int IntKind.i64 h0_0, L.lst 48 h0_1, L.int IntKind.i64 h0_2, L.int IntKind.i64 h0_3, L.lst 25 h0_4]) == 0)
   (G (alive_q6 (Prod.fst (lenS (decX [L.int IntKind.i64 h0_0, L.lst 48 h0_1, L.int IntKind.i64 h0_2, L.int IntKind.i64 h0_3, L.lst 25 h0_4]))) (Prod.snd (lenS (decX [L.int IntKind.i64 h0_0, L.lst 48 h0_1, L.int IntKind.i64 h0_2, L.int IntKind.i64 h0_3, L.lst 25 h0_4]))) h0_0 h0_1 h0_2 h0_3 h0_4))
   none) := by kernel_rfl
theorem alive_p6 (G : Req → R) (p : Rx) (q : Rx) (least4 : Int) (most5 : Int) (h0_0 : Int) (h0_1 : List (List L)) (h0_2 : Int) (h0_3 : Int) (h0_4 : List (List L)) : runB (cfg [(k_ParseA p q), k_one, (k_rSame 1000000000000), (k_Lens 1000000000000), k_printsA, k_refusedA, (k_Fold 1000000000000), k_Print, k_Has, (k_Same 1000000000000)]) G (alive_q6 least4 most5 h0_0 h0_1 h0_2 h0_3 h0_4) =
  (cond (least4 != 3)
   (some [(.bool (false))])
   (cond (most5 != -1)
    (some [(.bool (false))])
    (G (alive_q8 h0_0 h0_1 h0_2 h0_3 h0_4)))) := by kernel_rfl
theorem alive_p8 (G : Req → R) (p : Rx) (q : Rx) (h0_0 : Int) (h0_1 : List (List L)) (h0_2 : Int) (h0_3 : Int) (h0_4 : List (List L)) : runB (cfg [(k_ParseA p q), k_one, (k_rSame 1000000000000), (k_Lens 1000000000000), k_printsA, k_refusedA, (k_Fold 1000000000000), k_Print, k_Has, (k_Same 1000000000000)]) G (alive_q8 h0_0 h0_1 h0_2 h0_3 h0_4) =
  (G (alive_q10 h0_0 h0_1 h0_2 h0_3 h0_4)) := by kernel_rfl
theorem alive_p10 (G : Req → R) (p : Rx) (q : Rx) (h0_0 : Int) (h0_1 : List (List L)) (h0_2 : Int) (h0_3 : Int) (h0_4 : List (List L)) : runB (cfg [(k_ParseA p q), k_one, (k_rSame 1000000000000), (k_Lens 1000000000000), k_printsA, k_refusedA, (k_Fold 1000000000000), k_Print, k_Has, (k_Same 1000000000000)]) G (alive_q10 h0_0 h0_1 h0_2 h0_3 h0_4) =
  (G (alive_q11 0 h0_0 h0_1 h0_2 h0_3 h0_4 (Rx.kind q) (encRs (Rx.set q)) (Rx.mn q) (Rx.mx q) (List.map encX (Rx.subs q)))) := by kernel_rfl
theorem alive_p11 (G : Req → R) (p : Rx) (q : Rx) (f7 : Int) (h0_0 : Int) (h0_1 : List (List L)) (h0_2 : Int) (h0_3 : Int) (h0_4 : List (List L)) (h1_0 : Int) (h1_1 : List (List L)) (h1_2 : Int) (h1_3 : Int) (h1_4 : List (List L)) : runB (cfg [(k_ParseA p q), k_one, (k_rSame 1000000000000), (k_Lens 1000000000000), k_printsA, k_refusedA, (k_Fold 1000000000000), k_Print, k_Has, (k_Same 1000000000000)]) G (alive_q11 f7 h0_0 h0_1 h0_2 h0_3 h0_4 h1_0 h1_1 h1_2 h1_3 h1_4) =
  (cond (isX [L.int IntKind.i64 h1_0, L.lst 48 h1_1, L.int IntKind.i64 h1_2, L.int IntKind.i64 h1_3, L.lst 25 h1_4] 1000000000000)
   (cond (isX [L.int IntKind.i64 (Rx.kind (foldX (decX [L.int IntKind.i64 h1_0, L.lst 48 h1_1, L.int IntKind.i64 h1_2, L.int IntKind.i64 h1_3, L.lst 25 h1_4]))), L.lst 48 (encRs (Rx.set (foldX (decX [L.int IntKind.i64 h1_0, L.lst 48 h1_1, L.int IntKind.i64 h1_2, L.int IntKind.i64 h1_3, L.lst 25 h1_4])))), L.int IntKind.i64 (Rx.mn (foldX (decX [L.int IntKind.i64 h1_0, L.lst 48 h1_1, L.int IntKind.i64 h1_2, L.int IntKind.i64 h1_3, L.lst 25 h1_4]))), L.int IntKind.i64 (Rx.mx (foldX (decX [L.int IntKind.i64 h1_0, L.lst 48 h1_1, L.int IntKind.i64 h1_2, L.int IntKind.i64 h1_3, L.lst 25 h1_4]))), L.lst 25 (List.map encX (Rx.subs (foldX (decX [L.int IntKind.i64 h1_0, L.lst 48 h1_1, L.int IntKind.i64 h1_2, L.int IntKind.i64 h1_3, L.lst 25 h1_4]))))] 1000000000000)
    (G (alive_q12 f7 (mk (Prod.fst (printP (decX [L.int IntKind.i64 (Rx.kind (foldX (decX [L.int IntKind.i64 h1_0, L.lst 48 h1_1, L.int IntKind.i64 h1_2, L.int IntKind.i64 h1_3, L.lst 25 h1_4]))), L.lst 48 (encRs (Rx.set (foldX (decX [L.int IntKind.i64 h1_0, L.lst 48 h1_1, L.int IntKind.i64 h1_2, L.int IntKind.i64 h1_3, L.lst 25 h1_4])))), L.int IntKind.i64 (Rx.mn (foldX (decX [L.int IntKind.i64 h1_0, L.lst 48 h1_1, L.int IntKind.i64 h1_2, L.int IntKind.i64 h1_3, L.lst 25 h1_4]))), L.int IntKind.i64 (Rx.mx (foldX (decX [L.int IntKind.i64 h1_0, L.lst 48 h1_1, L.int IntKind.i64 h1_2, L.int IntKind.i64 h1_3, L.lst 25 h1_4]))), L.lst 25 (List.map encX (Rx.subs (foldX (decX [L.int IntKind.i64 h1_0, L.lst 48 h1_1, L.int IntKind.i64 h1_2, L.int IntKind.i64 h1_3, L.lst 25 h1_4]))))])))) (Prod.snd (printP (decX [L.int IntKind.i64 (Rx.kind (foldX (decX [L.int IntKind.i64 h1_0, L.lst 48 h1_1, L.int IntKind.i64 h1_2, L.int IntKind.i64 h1_3, L.lst 25 h1_4]))), L.lst 48 (encRs (Rx.set (foldX (decX [L.int IntKind.i64 h1_0, L.lst 48 h1_1, L.int IntKind.i64 h1_2, L.int IntKind.i64 h1_3, L.lst 25 h1_4])))), L.int IntKind.i64 (Rx.mn (foldX (decX [L.int IntKind.i64 h1_0, L.lst 48 h1_1, L.int IntKind.i64 h1_2, L.int IntKind.i64 h1_3, L.lst 25 h1_4]))), L.int IntKind.i64 (Rx.mx (foldX (decX [L.int IntKind.i64 h1_0, L.lst 48 h1_1, L.int IntKind.i64 h1_2, L.int IntKind.i64 h1_3, L.lst 25 h1_4]))), L.lst 25 (List.map encX (Rx.subs (foldX (decX [L.int IntKind.i64 h1_0, L.lst 48 h1_1, L.int IntKind.i64 h1_2, L.int IntKind.i64 h1_3, L.lst 25 h1_4]))))]))) h0_0 h0_1 h0_2 h0_3 h0_4 h1_0 h1_1 h1_2 h1_3 h1_4))
    none)
   none) := by kernel_rfl
theorem alive_p12 (G : Req → R) (p : Rx) (q : Rx) (f7 : Int) (s8 : ByteArray) (g9 : Int) (h0_0 : Int) (h0_1 : List (List L)) (h0_2 : Int) (h0_3 : Int) (h0_4 : List (List L)) (h1_0 : Int) (h1_1 : List (List L)) (h1_2 : Int) (h1_3 : Int) (h1_4 : List (List L)) : runB (cfg [(k_ParseA p q), k_one, (k_rSame 1000000000000), (k_Lens 1000000000000), k_printsA, k_refusedA, (k_Fold 1000000000000), k_Print, k_Has, (k_Same 1000000000000)]) G (alive_q12 f7 s8 g9 h0_0 h0_1 h0_2 h0_3 h0_4 h1_0 h1_1 h1_2 h1_3 h1_4) =
  (cond (f7 == 0)
   (cond (g9 == 0)
    (cond (bl s8 == bl (mk [91, 65, 45, 67, 97, 45, 99, 93]))
     (cond (isRs h1_1)
      (cond (hasI (decRs h1_1) 98)
       (cond (isX [L.int IntKind.i64 h1_0, L.lst 48 h1_1, L.int IntKind.i64 h1_2, L.int IntKind.i64 h1_3, L.lst 25 h1_4] 1000000000000 && isX [L.int IntKind.i64 h1_0, L.lst 48 h1_1, L.int IntKind.i64 h1_2, L.int IntKind.i64 h1_3, L.lst 25 h1_4] 1000000000000)
        (cond (sameX (decX [L.int IntKind.i64 h1_0, L.lst 48 h1_1, L.int IntKind.i64 h1_2, L.int IntKind.i64 h1_3, L.lst 25 h1_4]) (decX [L.int IntKind.i64 h1_0, L.lst 48 h1_1, L.int IntKind.i64 h1_2, L.int IntKind.i64 h1_3, L.lst 25 h1_4]))
         (cond (isX [L.int IntKind.i64 h1_0, L.lst 48 h1_1, L.int IntKind.i64 h1_2, L.int IntKind.i64 h1_3, L.lst 25 h1_4] 1000000000000 && isX [L.int IntKind.i64 h0_0, L.lst 48 h0_1, L.int IntKind.i64 h0_2, L.int IntKind.i64 h0_3, L.lst 25 h0_4] 1000000000000)
          (some [(.bool (!sameX (decX [L.int IntKind.i64 h1_0, L.lst 48 h1_1, L.int IntKind.i64 h1_2, L.int IntKind.i64 h1_3, L.lst 25 h1_4]) (decX [L.int IntKind.i64 h0_0, L.lst 48 h0_1, L.int IntKind.i64 h0_2, L.int IntKind.i64 h0_3, L.lst 25 h0_4])))])
          none)
         (some [(.bool (false))]))
        none)
       (some [(.bool (false))]))
      none)
     (some [(.bool (false))]))
    (some [(.bool (false))]))
   (some [(.bool (false))])) := by kernel_rfl

end Go.Ab
namespace Go.Ab
open Go.Proofs

theorem Holds.of_le {f : Nat} {S S' : Con} (h : Holds (f, S)) (hl : ∀ aa hp r, S' aa hp = some (true, r) → S aa hp = some (true, r)) : Holds (f, S') := fun aa hp r hs => h aa hp r (hl aa hp r hs)
/-! ### folding keeps -/
mutual
theorem foldX_nodes : ∀ x : Rx, (foldX x).nodes = x.nodes
  | .mk k s mn mx ss => by rw [foldX, Rx.nodes, Rx.nodes, foldXs_nodes ss]
theorem foldXs_nodes : ∀ xs : List Rx, nodesL (foldXs xs) = nodesL xs
  | [] => by rw [foldXs]
  | x :: xs => by rw [foldXs, nodesL, nodesL, foldX_nodes x, foldXs_nodes xs]
end
mutual
theorem foldX_lev : ∀ x : Rx, (foldX x).lev = x.lev
  | .mk k s mn mx ss => by rw [foldX, Rx.lev, Rx.lev, foldXs_lev ss]
theorem foldXs_lev : ∀ xs : List Rx, levL (foldXs xs) = levL xs
  | [] => by rw [foldXs]
  | x :: xs => by rw [foldXs, levL, levL, foldX_lev x, foldXs_lev xs]
end
theorem foldRs_len (s : List (UInt8 × UInt8)) : (foldRs s).length ≤ 256 := canR_len _ _
mutual
theorem foldX_sets : ∀ x : Rx, x.sets → (foldX x).sets
  | .mk k s mn mx ss, h => by
    rw [Rx.sets] at h
    rw [foldX, Rx.sets]
    refine ⟨?_, foldXs_sets ss h.2⟩
    have := foldRs_len s
    cases k == 1 with
    | true => show (foldRs s).length ≤ _; omega
    | false => exact h.1
theorem foldXs_sets : ∀ xs : List Rx, setsL xs → setsL (foldXs xs)
  | [], _ => by rw [foldXs, setsL]; trivial
  | x :: xs, h => by
    rw [setsL] at h
    rw [foldXs, setsL]
    exact ⟨foldX_sets x h.1, foldXs_sets xs h.2⟩
end
theorem foldX_ok {x : Rx} (h : x.ok) : (foldX x).ok := ⟨foldX_sets x h.1, by rw [foldX_nodes]; exact h.2⟩
theorem sameX_refl (x : Rx) : sameX x x = true := by unfold sameX; classical exact decide_eq_true rfl
theorem sameX_iff (x y : Rx) : sameX x y = true ↔ x = y := by unfold sameX; classical exact decide_eq_true_iff
theorem sameX_ne {x y : Rx} (h : x ≠ y) : sameX x y = false := by unfold sameX; classical exact decide_eq_false h
/-! ### what is parsed is whole -/
theorem zeroX_ok : zeroX.ok := ⟨sets_mk _ _ _ (by simp) (by rw [setsL]; trivial), by unfold zeroX; rw [Rx.nodes, nodesL]; omega⟩
theorem zeroX_nodes : zeroX.nodes = 1 := by unfold zeroX; rw [Rx.nodes, nodesL]
theorem parseP_ok (l : List UInt8) : (parseP l).1.ok ∧ (parseP l).1.nodes ≤ 1300 := by
  unfold parseP
  split
  · exact ⟨zeroX_ok, by rw [zeroX_nodes]; omega⟩
  · split
    · exact ⟨zeroX_ok, by rw [zeroX_nodes]; omega⟩
    · rename_i h1 h2
      split
      · exact ⟨zeroX_ok, by rw [zeroX_nodes]; omega⟩
      · have hb : (altS 301 (l, false)).2.2 = false := not_bad fun h => h2 (.inl h)
        obtain ⟨k1, k2⟩ := altS_ok (n := 300) hb (by omega)
        have k2 : (altS 301 (l, false)).1.nodes ≤ 4 * l.length + 3 := k2
        exact ⟨k1, by show (altS 301 (l, false)).1.nodes ≤ _; omega⟩
theorem prints_holds : Holds k_prints := con_run (xs := [k_Parse, k_Print]) (hold1 Parse_holds (hold1 Print_ok hold0)) fun aa hp r h => by
  split at h
  case h_2 => cases h
  rename_i s t
  obtain ⟨g, rfl⟩ := xo h
  refine Runs.by (prints_e · _ _) ?_
  obtain ⟨k1, k2⟩ := parseP_ok (bl s)
  rw [g, dec5, is5 k1 (ok_lev k1)]
  unfold printsP
  by_cases h1 : (parseP (bl s)).2 = 0
  · rw [ev_ne_f h1, decide_eq_true h1]
    by_cases h2 : (printP (parseP (bl s)).1).2 = 0
    · rw [ev_eq_t h2, decide_eq_true h2, bl_mk]
      refine .ret' (congrArg (fun b => [L.bool b]) ?_)
      rw [Bool.true_and, Bool.true_and, Bool.eq_iff_iff, beq_iff_eq, decide_eq_true_eq]
    · rw [ev_eq_f h2, decide_eq_false h2]; exact .ret
  · rw [ev_ne_t h1, decide_eq_false h1]; exact .ret
theorem refused_holds : Holds k_refused := con_run (xs := [k_Parse]) (hold1 Parse_holds hold0) fun aa hp r h => by
  split at h
  case h_2 => cases h
  obtain ⟨g, rfl⟩ := xo h
  refine Runs.by (refused_e · _ _) ?_
  rw [g]
  exact .ret
theorem one_holds : Holds k_one := con_run (xs := []) hold0 fun aa hp r h => by
  split at h
  case h_2 => cases h
  obtain ⟨g, rfl⟩ := xo h
  refine Runs.by (one_e · _) ?_
  exact .ret
/-! ### the examples -/
def pA : Rx := .mk 2 [] 0 0 [.mk 1 [(97, 97)] 0 0 [], .mk 4 [] 1 (-1) [.mk 1 [(98, 98)] 0 0 []], .mk 1 [(99, 99)] 0 0 []]
def qA : Rx := .mk 1 [(97, 99)] 0 0 []
theorem parse_pA : parseP [97, 98, 43, 99] = (pA, 0) := by kernel_rfl
theorem parse_qA : parseP [91, 97, 45, 99, 93] = (qA, 0) := by kernel_rfl
theorem tabP_ok : tabP.all (fun p => printsP p.1 p.2) = true := by kernel_rfl
theorem tabR_ok : tabR.all (fun p => (parseP p.1).2 == p.2) = true := by kernel_rfl
theorem print_fA : printP (foldX qA) = ([91, 65, 45, 67, 97, 45, 99, 93], 0) := by kernel_rfl
theorem lens_pA : lenS pA = (3, -1) := by kernel_rfl
theorem node_pA : nodeS pA = 0 := by kernel_rfl

theorem pA_ok : pA.ok := ⟨by unfold pA; simp [Rx.sets, setsL], by unfold pA; simp [Rx.nodes, nodesL]⟩
theorem qA_ok : qA.ok := ⟨by unfold qA; simp [Rx.sets, setsL], by unfold qA; simp [Rx.nodes, nodesL]⟩
theorem ParseA_holds : Holds (k_ParseA pA qA) := Holds.of_le Parse_holds fun aa hp r h => by
  split at h
  case h_2 => cases h
  rename_i s
  obtain ⟨l, rfl⟩ := str_cases s
  rw [bl_mk] at h
  cases h1 : l == [97, 98, 43, 99] with
  | true =>
    rw [h1, cond_true] at h
    have e := eq_of_beq h1
    subst e
    show some (Nat.ble _ _, cells5 (parseP [97, 98, 43, 99]).1 ++ [.int .i64 (parseP [97, 98, 43, 99]).2]) = _
    rw [parse_pA]
    exact h
  | false =>
    rw [h1, cond_false] at h
    cases h2 : l == [91, 97, 45, 99, 93] with
    | true =>
      rw [h2, cond_true] at h
      have e := eq_of_beq h2
      subst e
      show some (Nat.ble _ _, cells5 (parseP [91, 97, 45, 99, 93]).1 ++ [.int .i64 (parseP [91, 97, 45, 99, 93]).2]) = _
      rw [parse_qA]
      exact h
    | false => rw [h2] at h; cases h
theorem printsA_holds : Holds k_printsA := Holds.of_le prints_holds fun aa hp r h => by
  split at h
  case h_2 => cases h
  rename_i s t
  obtain ⟨l, rfl⟩ := str_cases s
  obtain ⟨m, rfl⟩ := str_cases t
  rw [bl_mk, bl_mk] at h
  cases h1 : tabP.any fun p => p.1 == l && p.2 == m with
  | false => rw [h1] at h; cases h
  | true =>
    rw [h1, cond_true] at h
    obtain ⟨p, hp1, hp2⟩ := List.any_eq_true.1 h1
    rw [Bool.and_eq_true] at hp2
    have e1 := eq_of_beq hp2.1
    have e2 := eq_of_beq hp2.2
    have := List.all_eq_true.1 tabP_ok p hp1
    rw [e1, e2] at this
    have hlen : l.length ≤ 9 := by
      rw [← e1]
      have hall : (tabP.all fun p => decide (p.1.length ≤ 9)) = true := by decide
      exact of_decide_eq_true (List.all_eq_true.1 hall p hp1)
    show some (Nat.ble (mk l).size 9223372036854775807, [L.bool (printsP (bl (mk l)) (bl (mk m)))]) = _
    rw [bl_mk, bl_mk, this, size_mk, ev_blt (by omega)]
    exact h
theorem refusedA_holds : Holds k_refusedA := Holds.of_le refused_holds fun aa hp r h => by
  split at h
  case h_2 => cases h
  rename_i s w
  obtain ⟨l, rfl⟩ := str_cases s
  rw [bl_mk] at h
  cases h1 : tabR.any fun p => p.1 == l && p.2 == w with
  | false => rw [h1] at h; cases h
  | true =>
    rw [h1, cond_true] at h
    obtain ⟨p, hp1, hp2⟩ := List.any_eq_true.1 h1
    rw [Bool.and_eq_true] at hp2
    have e1 := eq_of_beq hp2.1
    have e2 := eq_of_beq hp2.2
    have := List.all_eq_true.1 tabR_ok p hp1
    have this : ((parseP p.1).2 == p.2) = true := this
    rw [e1, e2] at this
    have hlen : l.length ≤ 9 := by
      rw [← e1]
      have hall : (tabR.all fun p => decide (p.1.length ≤ 9)) = true := by decide
      exact of_decide_eq_true (List.all_eq_true.1 hall p hp1)
    show some (Nat.ble (mk l).size 9223372036854775807, [L.bool ((parseP (bl (mk l))).2 == w)]) = _
    rw [bl_mk, this, size_mk, ev_blt (by omega)]
    exact h
theorem litA : ([L.int .i64 2, .lst 48 [], .int .i64 0, .int .i64 0, .lst 25 [[L.int .i64 1, .lst 48 [[L.int .u8 97, .int .u8 97]], .int .i64 0, .int .i64 0, .lst 25 []], [L.int .i64 4, .lst 48 [], .int .i64 1, .int .i64 (-1), .lst 25 [[L.int .i64 1, .lst 48 [[L.int .u8 98, .int .u8 98]], .int .i64 0, .int .i64 0, .lst 25 []]]], [L.int .i64 1, .lst 48 [[L.int .u8 99, .int .u8 99]], .int .i64 0, .int .i64 0, .lst 25 []]]] : List L) = encX pA := by kernel_rfl
theorem hasq : hasI qA.set 98 = true := by decide
theorem alive_holds : Holds k_alive := con_run (xs := [k_ParseA pA qA, k_one, k_rSame 1000000000000, k_Lens 1000000000000, k_printsA, k_refusedA, k_Fold 1000000000000, k_Print, k_Has, k_Same 1000000000000])
    (hold1 ParseA_holds (hold1 one_holds (hold1 (rSame_holds _) (hold1 (Lens_holds _) (hold1 printsA_holds (hold1 refusedA_holds (hold1 (Fold_holds _) (hold1 Print_ok (hold1 Has_holds (hold1 (Same_holds _) hold0)))))))))) fun aa hp r h => by
  split at h
  case h_2 => cases h
  obtain ⟨_, rfl⟩ := xo h
  have lp := ok_lev pA_ok
  have lq := ok_lev qA_ok
  have lf := ok_lev (foldX_ok qA_ok)
  refine Runs.by (alive_e · pA qA) (.go ?_)
  refine Runs.by (alive_p3 · pA qA _ _ _ _ _ _ _ _ _ _ _) ?_
  simp only [bne_self_eq_false, cond_false, dupN_eq, both_self]
  rw [litA, dec5, is5 pA_ok lp, isX_enc pA_ok lp, decX_enc, sameX_refl]
  refine .go ?_
  refine Runs.by (alive_p5 · pA qA _ _ _ _ _) ?_
  rw [dec5, is5 pA_ok lp, node_pA, lens_pA]
  refine .go ?_
  refine Runs.by (alive_p6 · pA qA _ _ _ _ _ _ _) ?_
  refine .go ?_
  refine Runs.by (alive_p8 · pA qA _ _ _ _ _) (.go ?_)
  refine Runs.by (alive_p10 · pA qA _ _ _ _ _) (.go ?_)
  refine Runs.by (alive_p11 · pA qA _ _ _ _ _ _ _ _ _ _ _) ?_
  simp only [dec5]
  rw [is5 qA_ok lq, is5 (foldX_ok qA_ok) lf, print_fA]
  refine .go ?_
  refine Runs.by (alive_p12 · pA qA _ _ _ _ _ _ _ _ _ _ _ _ _) ?_
  rw [dec5, dec5, is5 pA_ok lp, is5 qA_ok lq, isRs_enc (ok_set qA_ok), decRs_enc, hasq, sameX_refl]
  refine .ret' ?_
  rw [sameX_ne (x := qA) (y := pA) (fun h => by unfold pA qA at h; simp at h)]
  rfl
end Go.Ab
namespace Go.Ab
open Go.Proofs

theorem lszL_ge {f : Rx → Int} (hf : ∀ y, 0 ≤ f y) : ∀ (xs : List Rx) (a : Int), a ≤ lszL f a xs
  | [], a => Int.le_refl _
  | x :: xs, a => by
    rw [lszL]
    cases ltI a 1000 with
    | true => have := lszL_ge hf xs (a + f x); have := hf x; simp only [cond_true]; omega
    | false => exact Int.le_refl _
theorem lszL_all {f : Rx → Int} (hf : ∀ y, 0 ≤ f y) : ∀ (xs : List Rx) (a : Int), 0 ≤ a → lszL f a xs ≤ 100 → (∀ x ∈ xs, f x ≤ 100) ∧ lszL f a xs = a + (xs.map f).sum
  | [], a, _, _ => by simp [lszL]
  | x :: xs, a, h0, h => by
    have hg := lszL_ge hf (x :: xs) a
    have h1000 : a < 1000 := by omega
    rw [lszL, ev_lt_t h1000, cond_true] at h ⊢
    have hx := hf x
    have hg2 := lszL_ge hf xs (a + f x)
    obtain ⟨i1, i2⟩ := lszL_all hf xs (a + f x) (by omega) h
    refine ⟨fun y hy => ?_, ?_⟩
    · rcases List.mem_cons.1 hy with rfl | hy
      · omega
      · exact i1 y hy
    · rw [i2, List.map_cons, List.sum_cons]; omega
theorem nodesL_sum : ∀ xs : List Rx, ((nodesL xs : Nat) : Int) = (xs.map fun x => (x.nodes : Int)).sum
  | [] => rfl
  | x :: xs => by rw [nodesL, List.map_cons, List.sum_cons, ← nodesL_sum xs]; omega
theorem setsL_all : ∀ {xs : List Rx}, (∀ x ∈ xs, x.sets) → setsL xs
  | [], _ => by rw [setsL]; trivial
  | x :: xs, h => by rw [setsL]; exact ⟨h x List.mem_cons_self, setsL_all fun y hy => h y (List.mem_cons_of_mem _ hy)⟩
theorem levL_le : ∀ {xs : List Rx} {n : Nat}, (∀ x ∈ xs, x.lev ≤ n) → levL xs ≤ n
  | [], n, _ => by rw [levL]; exact Nat.zero_le _
  | x :: xs, n, h => by
    rw [levL]
    have h1 := h x List.mem_cons_self
    have h2 := levL_le fun y hy => h y (List.mem_cons_of_mem _ hy)
    omega
theorem lsz_small : ∀ (n : Nat) (x : Rx), lsz n x ≤ 100 → (x.nodes : Int) = lsz n x ∧ x.sets ∧ x.lev ≤ n
  | 0, x, h => by rw [lsz] at h; omega
  | n + 1, x, h => by
    rw [lsz] at h ⊢
    cases hc : (ltI 50 (x.set.length : Nat) || ltI 100 (x.subs.length : Nat)) with
    | true => rw [hc] at h; simp at h
    | false =>
      rw [hc, cond_false] at h
      rw [Bool.or_eq_false_iff] at hc
      have c1 := ltI_f hc.1
      have hf : ∀ y, 0 ≤ lsz n y := fun y => (lsz_b n y).1
      obtain ⟨h1, h2⟩ := lszL_all hf x.subs 1 (by omega) h
      have ih : ∀ y ∈ x.subs, (y.nodes : Int) = lsz n y ∧ y.sets ∧ y.lev ≤ n := fun y hy => lsz_small n y (h1 y hy)
      refine ⟨?_, ?_, ?_⟩
      · rw [cond_false, h2, nodes_eq]
        have := nodesL_sum x.subs
        have e : (x.subs.map fun x => (x.nodes : Int)) = x.subs.map (lsz n) := List.map_congr_left fun y hy => (ih y hy).1
        rw [e] at this
        omega
      · cases x with
        | mk k s mn mx ss =>
          rw [Rx.sets]
          have c1 : (s.length : Int) ≤ 50 := c1
          exact ⟨by omega, setsL_all fun y hy => (ih y hy).2.1⟩
      · rw [lev_eq]
        have := levL_le fun y hy => (ih y hy).2.2
        omega
theorem small_ok {x : Rx} (h : smallX x = true) : x.ok ∧ x.lev ≤ 30 ∧ x.nodes ≤ 100 := by
  unfold smallX at h
  have h := leI_t h
  obtain ⟨h1, h2, h3⟩ := lsz_small 30 x h
  exact ⟨⟨h2, by omega⟩, h3, by omega⟩
/-- The other case of a letter. -/
def swapB (j : Nat) : Nat := if 97 ≤ j ∧ j ≤ 122 then j - 32 else if 65 ≤ j ∧ j ≤ 90 then j + 32 else j
def covSet (a b : List (UInt8 × UInt8)) : Bool := (List.range 256).all fun j => hasI b (j : Nat) == (hasI a (j : Nat) || hasI a (swapB j : Nat))
mutual
def coversP : Rx → Rx → Bool
  | .mk k s mn mx ss, y => (k == y.kind && (mn == y.mn && (mx == y.mx && Nat.beq ss.length y.subs.length))) && (covSet s y.set && coversL ss y.subs)
def coversL : List Rx → List Rx → Bool
  | [], _ => true
  | _ :: _, [] => false
  | x :: xs, y :: ys => coversP x y && coversL xs ys
end
theorem coversP_eq (x y : Rx) : coversP x y = ((x.kind == y.kind && (x.mn == y.mn && (x.mx == y.mx && Nat.beq x.subs.length y.subs.length))) && (covSet x.set y.set && coversL x.subs y.subs)) := by cases x; rw [coversP]; rfl
noncomputable def k_covers (n : Nat) : Nat × Con := (n_codesearchlaw08_covers, fun
  | [.agg [.int .i64 a0, .lst 48 a1, .int .i64 a2, .int .i64 a3, .lst 25 a4], .agg [.int .i64 b0, .lst 48 b1, .int .i64 b2, .int .i64 b3, .lst 25 b4]], [] =>
    some (isX [.int .i64 a0, .lst 48 a1, .int .i64 a2, .int .i64 a3, .lst 25 a4] n && isX [.int .i64 b0, .lst 48 b1, .int .i64 b2, .int .i64 b3, .lst 25 b4] 1000000000000,
      [.bool (coversP (decX [.int .i64 a0, .lst 48 a1, .int .i64 a2, .int .i64 a3, .lst 25 a4]) (decX [.int .i64 b0, .lst 48 b1, .int .i64 b2, .int .i64 b3, .lst 25 b4]))])
  | _, _ => none)
end Go.Ab
namespace Go.Ab
open Go.Proofs
/-! codesearch/codesearchlaw08.RegexChecks -/
theorem LChecks_e (G : Req → R) (a0_0 : Int) (a0_1 : List (List L)) (a0_2 : Int) (a0_3 : Int) (a0_4 : List (List L)) (b1_0 : Int) (b1_1 : List (List L)) (b1_2 : Int) (b1_3 : Int) (b1_4 : List (List L)) : runB (cfg [k_alive, k_small, k_Right, k_rRight, (k_Same 1000000000000), (k_rSame 1000000000000)]) G (.enter 3 [(.agg [(.int IntKind.i64 (a0_0)), (.lst 48 a0_1), (.int IntKind.i64 (a0_2)), (.int IntKind.i64 (a0_3)), (.lst 25 a0_4)]), (.agg [(.int IntKind.i64 (b1_0)), (.lst 48 b1_1), (.int IntKind.i64 (b1_2)), (.int IntKind.i64 (b1_3)), (.lst 25 b1_4)])] []) =
  (cond (isXa [L.int IntKind.i64 a0_0, L.lst 48 a0_1, L.int IntKind.i64 a0_2, L.int IntKind.i64 a0_3, L.lst 25 a0_4])
   (cond (!smallX (decX [L.int IntKind.i64 a0_0, L.lst 48 a0_1, L.int IntKind.i64 a0_2, L.int IntKind.i64 a0_3, L.lst 25 a0_4]))
    (some [(.bool (true))])
    (cond (isXa [L.int IntKind.i64 b1_0, L.lst 48 b1_1, L.int IntKind.i64 b1_2, L.int IntKind.i64 b1_3, L.lst 25 b1_4])
     (cond (!smallX (decX [L.int IntKind.i64 b1_0, L.lst 48 b1_1, L.int IntKind.i64 b1_2, L.int IntKind.i64 b1_3, L.lst 25 b1_4]))
      (some [(.bool (true))])
      (both
       (dupN 1
        (cond (isX [L.int IntKind.i64 a0_0, L.lst 48 a0_1, L.int IntKind.i64 a0_2, L.int IntKind.i64 a0_3, L.lst 25 a0_4] 1000000000000)
         (cond (isX [L.int IntKind.i64 a0_0, L.lst 48 a0_1, L.int IntKind.i64 a0_2, L.int IntKind.i64 a0_3, L.lst 25 a0_4] 1000000000000)
          (cond (rightS (decX [L.int IntKind.i64 a0_0, L.lst 48 a0_1, L.int IntKind.i64 a0_2, L.int IntKind.i64 a0_3, L.lst 25 a0_4]) == rightS (decX [L.int IntKind.i64 a0_0, L.lst 48 a0_1, L.int IntKind.i64 a0_2, L.int IntKind.i64 a0_3, L.lst 25 a0_4]))
           (both
            (cond (isX [L.int IntKind.i64 a0_0, L.lst 48 a0_1, L.int IntKind.i64 a0_2, L.int IntKind.i64 a0_3, L.lst 25 a0_4] 1000000000000 && isX [L.int IntKind.i64 b1_0, L.lst 48 b1_1, L.int IntKind.i64 b1_2, L.int IntKind.i64 b1_3, L.lst 25 b1_4] 1000000000000)
             (cond (isX [L.int IntKind.i64 a0_0, L.lst 48 a0_1, L.int IntKind.i64 a0_2, L.int IntKind.i64 a0_3, L.lst 25 a0_4] 1000000000000 && isX [L.int IntKind.i64 b1_0, L.lst 48 b1_1, L.int IntKind.i64 b1_2, L.int IntKind.i64 b1_3, L.lst 25 b1_4] 1000000000000)
              (cond (sameX (decX [L.int IntKind.i64 a0_0, L.lst 48 a0_1, L.int IntKind.i64 a0_2, L.int IntKind.i64 a0_3, L.lst 25 a0_4]) (decX [L.int IntKind.i64 b1_0, L.lst 48 b1_1, L.int IntKind.i64 b1_2, L.int IntKind.i64 b1_3, L.lst 25 b1_4]) == sameX (decX [L.int IntKind.i64 a0_0, L.lst 48 a0_1, L.int IntKind.i64 a0_2, L.int IntKind.i64 a0_3, L.lst 25 a0_4]) (decX [L.int IntKind.i64 b1_0, L.lst 48 b1_1, L.int IntKind.i64 b1_2, L.int IntKind.i64 b1_3, L.lst 25 b1_4]))
               (cond (isX [L.int IntKind.i64 a0_0, L.lst 48 a0_1, L.int IntKind.i64 a0_2, L.int IntKind.i64 a0_3, L.lst 25 a0_4] 1000000000000 && isX [L.int IntKind.i64 a0_0, L.lst 48 a0_1, L.int IntKind.i64 a0_2, L.int IntKind.i64 a0_3, L.lst 25 a0_4] 1000000000000)
                (some [(.bool (sameX (decX [L.int IntKind.i64 a0_0, L.lst 48 a0_1, L.int IntKind.i64 a0_2, L.int IntKind.i64 a0_3, L.lst 25 a0_4]) (decX [L.int IntKind.i64 a0_0, L.lst 48 a0_1, L.int IntKind.i64 a0_2, L.int IntKind.i64 a0_3, L.lst 25 a0_4])))])
                none)
               (some [(.bool (false))]))
              none)
             none)
            (dupN 1
             (dupN 1
              (cond (isX [L.int IntKind.i64 a0_0, L.lst 48 a0_1, L.int IntKind.i64 a0_2, L.int IntKind.i64 a0_3, L.lst 25 a0_4] 1000000000000 && isX [L.int IntKind.i64 b1_0, L.lst 48 b1_1, L.int IntKind.i64 b1_2, L.int IntKind.i64 b1_3, L.lst 25 b1_4] 1000000000000)
               (cond (isX [L.int IntKind.i64 a0_0, L.lst 48 a0_1, L.int IntKind.i64 a0_2, L.int IntKind.i64 a0_3, L.lst 25 a0_4] 1000000000000 && isX [L.int IntKind.i64 b1_0, L.lst 48 b1_1, L.int IntKind.i64 b1_2, L.int IntKind.i64 b1_3, L.lst 25 b1_4] 1000000000000)
                (cond (sameX (decX [L.int IntKind.i64 a0_0, L.lst 48 a0_1, L.int IntKind.i64 a0_2, L.int IntKind.i64 a0_3, L.lst 25 a0_4]) (decX [L.int IntKind.i64 b1_0, L.lst 48 b1_1, L.int IntKind.i64 b1_2, L.int IntKind.i64 b1_3, L.lst 25 b1_4]) == sameX (decX [L.int IntKind.i64 a0_0, L.lst 48 a0_1, L.int IntKind.i64 a0_2, L.int IntKind.i64 a0_3, L.lst 25 a0_4]) (decX [L.int IntKind.i64 b1_0, L.lst 48 b1_1, L.int IntKind.i64 b1_2, L.int IntKind.i64 b1_3, L.lst 25 b1_4]))
                 (cond (isX [L.int IntKind.i64 a0_0, L.lst 48 a0_1, L.int IntKind.i64 a0_2, L.int IntKind.i64 a0_3, L.lst 25 a0_4] 1000000000000 && isX [L.int IntKind.i64 a0_0, L.lst 48 a0_1, L.int IntKind.i64 a0_2, L.int IntKind.i64 a0_3, L.lst 25 a0_4] 1000000000000)
                  (some [(.bool (sameX (decX [L.int IntKind.i64 a0_0, L.lst 48 a0_1, L.int IntKind.i64 a0_2, L.int IntKind.i64 a0_3, L.lst 25 a0_4]) (decX [L.int IntKind.i64 a0_0, L.lst 48 a0_1, L.int IntKind.i64 a0_2, L.int IntKind.i64 a0_3, L.lst 25 a0_4])))])
                  none)
                 (some [(.bool (false))]))
                none)
               none))))
           (both
            (some [(.bool (false))])
            (dupN 1
             (dupN 1
              (some [(.bool (false))])))))
          none)
         none))
       (cond (isX [L.int IntKind.i64 a0_0, L.lst 48 a0_1, L.int IntKind.i64 a0_2, L.int IntKind.i64 a0_3, L.lst 25 a0_4] 1000000000000)
        (cond (isX [L.int IntKind.i64 a0_0, L.lst 48 a0_1, L.int IntKind.i64 a0_2, L.int IntKind.i64 a0_3, L.lst 25 a0_4] 1000000000000)
         (cond (rightS (decX [L.int IntKind.i64 a0_0, L.lst 48 a0_1, L.int IntKind.i64 a0_2, L.int IntKind.i64 a0_3, L.lst 25 a0_4]) == rightS (decX [L.int IntKind.i64 a0_0, L.lst 48 a0_1, L.int IntKind.i64 a0_2, L.int IntKind.i64 a0_3, L.lst 25 a0_4]))
          (both
           (cond (isX [L.int IntKind.i64 a0_0, L.lst 48 a0_1, L.int IntKind.i64 a0_2, L.int IntKind.i64 a0_3, L.lst 25 a0_4] 1000000000000 && isX [L.int IntKind.i64 b1_0, L.lst 48 b1_1, L.int IntKind.i64 b1_2, L.int IntKind.i64 b1_3, L.lst 25 b1_4] 1000000000000)
            (cond (isX [L.int IntKind.i64 a0_0, L.lst 48 a0_1, L.int IntKind.i64 a0_2, L.int IntKind.i64 a0_3, L.lst 25 a0_4] 1000000000000 && isX [L.int IntKind.i64 b1_0, L.lst 48 b1_1, L.int IntKind.i64 b1_2, L.int IntKind.i64 b1_3, L.lst 25 b1_4] 1000000000000)
             (cond (sameX (decX [L.int IntKind.i64 a0_0, L.lst 48 a0_1, L.int IntKind.i64 a0_2, L.int IntKind.i64 a0_3, L.lst 25 a0_4]) (decX [L.int IntKind.i64 b1_0, L.lst 48 b1_1, L.int IntKind.i64 b1_2, L.int IntKind.i64 b1_3, L.lst 25 b1_4]) == sameX (decX [L.int IntKind.i64 a0_0, L.lst 48 a0_1, L.int IntKind.i64 a0_2, L.int IntKind.i64 a0_3, L.lst 25 a0_4]) (decX [L.int IntKind.i64 b1_0, L.lst 48 b1_1, L.int IntKind.i64 b1_2, L.int IntKind.i64 b1_3, L.lst 25 b1_4]))
              (cond (isX [L.int IntKind.i64 a0_0, L.lst 48 a0_1, L.int IntKind.i64 a0_2, L.int IntKind.i64 a0_3, L.lst 25 a0_4] 1000000000000 && isX [L.int IntKind.i64 a0_0, L.lst 48 a0_1, L.int IntKind.i64 a0_2, L.int IntKind.i64 a0_3, L.lst 25 a0_4] 1000000000000)
               (some [(.bool (sameX (decX [L.int IntKind.i64 a0_0, L.lst 48 a0_1, L.int IntKind.i64 a0_2, L.int IntKind.i64 a0_3, L.lst 25 a0_4]) (decX [L.int IntKind.i64 a0_0, L.lst 48 a0_1, L.int IntKind.i64 a0_2, L.int IntKind.i64 a0_3, L.lst 25 a0_4])))])
               none)
              (some [(.bool (false))]))
             none)
            none)
           (dupN 1
            (dupN 1
             (cond (isX [L.int IntKind.i64 a0_0, L.lst 48 a0_1, L.int IntKind.i64 a0_2, L.int IntKind.i64 a0_3, L.lst 25 a0_4] 1000000000000 && isX [L.int IntKind.i64 b1_0, L.lst 48 b1_1, L.int IntKind.i64 b1_2, L.int IntKind.i64 b1_3, L.lst 25 b1_4] 1000000000000)
              (cond (isX [L.int IntKind.i64 a0_0, L.lst 48 a0_1, L.int IntKind.i64 a0_2, L.int IntKind.i64 a0_3, L.lst 25 a0_4] 1000000000000 && isX [L.int IntKind.i64 b1_0, L.lst 48 b1_1, L.int IntKind.i64 b1_2, L.int IntKind.i64 b1_3, L.lst 25 b1_4] 1000000000000)
               (cond (sameX (decX [L.int IntKind.i64 a0_0, L.lst 48 a0_1, L.int IntKind.i64 a0_2, L.int IntKind.i64 a0_3, L.lst 25 a0_4]) (decX [L.int IntKind.i64 b1_0, L.lst 48 b1_1, L.int IntKind.i64 b1_2, L.int IntKind.i64 b1_3, L.lst 25 b1_4]) == sameX (decX [L.int IntKind.i64 a0_0, L.lst 48 a0_1, L.int IntKind.i64 a0_2, L.int IntKind.i64 a0_3, L.lst 25 a0_4]) (decX [L.int IntKind.i64 b1_0, L.lst 48 b1_1, L.int IntKind.i64 b1_2, L.int IntKind.i64 b1_3, L.lst 25 b1_4]))
                (cond (isX [L.int IntKind.i64 a0_0, L.lst 48 a0_1, L.int IntKind.i64 a0_2, L.int IntKind.i64 a0_3, L.lst 25 a0_4] 1000000000000 && isX [L.int IntKind.i64 a0_0, L.lst 48 a0_1, L.int IntKind.i64 a0_2, L.int IntKind.i64 a0_3, L.lst 25 a0_4] 1000000000000)
                 (some [(.bool (sameX (decX [L.int IntKind.i64 a0_0, L.lst 48 a0_1, L.int IntKind.i64 a0_2, L.int IntKind.i64 a0_3, L.lst 25 a0_4]) (decX [L.int IntKind.i64 a0_0, L.lst 48 a0_1, L.int IntKind.i64 a0_2, L.int IntKind.i64 a0_3, L.lst 25 a0_4])))])
                 none)
                (some [(.bool (false))]))
               none)
              none))))
          (both
           (some [(.bool (false))])
           (dupN 1
            (dupN 1
             (some [(.bool (false))])))))
         none)
        none)))
     none))
   none) := by kernel_rfl

/-! codesearch/codesearchlaw08.RegexFolds -/
noncomputable def LFolds_q7 (h0_0 : Int) (h0_1 : List (List L)) (h0_2 : Int) (h0_3 : Int) (h0_4 : List (List L)) : Req := .point 6 [] (todoAt Tryd.prog 6 7) ⟨[an, an, (.lf (.ptr 0 0)), an, an, an, an, an, an, an, an, an, an, an, an, an, an, an, an, an, an, an, an, an, an, an, an, an, an, an, an, an, an, an, an, an, an, an, an, an, an, an, an, an, an, an, an, an, an, an, an], [(.box [(.int IntKind.i64), (.sl 48), (.int IntKind.i64), (.int IntKind.i64), (.sl 25)] [(.int IntKind.i64 h0_0), (.lst 48 h0_1), (.int IntKind.i64 h0_2), (.int IntKind.i64 h0_3), (.lst 25 h0_4)])]⟩
noncomputable def LFolds_q11 (a5 : Int) (b6 : Int) (x7 : Int) (y8 : Int) (h0_0 : Int) (h0_1 : List (List L)) (h0_2 : Int) (h0_3 : Int) (h0_4 : List (List L)) : Req := .point 6 [] (todoAt Tryd.prog 6 11) ⟨[an, an, (.lf (.ptr 0 0)), an, an, (.lf (.int IntKind.i64 a5)), (.lf (.int IntKind.i64 b6)), (.lf (.int IntKind.i64 x7)), (.lf (.int IntKind.i64 y8)), an, an, an, an, an, an, an, an, an, an, an, an, an, an, an, an, an, an, an, an, an, an, an, an, an, an, an, an, an, an, an, an, an, an, an, an, an, an, an, an, an, an], [(.box [(.int IntKind.i64), (.sl 48), (.int IntKind.i64), (.int IntKind.i64), (.sl 25)] [(.int IntKind.i64 h0_0), (.lst 48 h0_1), (.int IntKind.i64 h0_2), (.int IntKind.i64 h0_3), (.lst 25 h0_4)])]⟩
theorem LFolds_e (G : Req → R) (re0_0 : Int) (re0_1 : List (List L)) (re0_2 : Int) (re0_3 : Int) (re0_4 : List (List L)) (c1 : Int) : runB (cfg [k_alive, k_small, k_Has, k_rHas, k_rRight, (k_Lens 1000000000000), (k_rLens 1000000000000), (k_Fold 1000000000000), (k_rFold 1000000000000), (k_rSame 1000000000000)]) G (.enter 6 [(.agg [(.int IntKind.i64 (re0_0)), (.lst 48 re0_1), (.int IntKind.i64 (re0_2)), (.int IntKind.i64 (re0_3)), (.lst 25 re0_4)]), (.lf (.int IntKind.u8 (c1)))] []) =
  (cond (isXa [L.int IntKind.i64 re0_0, L.lst 48 re0_1, L.int IntKind.i64 re0_2, L.int IntKind.i64 re0_3, L.lst 25 re0_4])
   (cond (!smallX (decX [L.int IntKind.i64 re0_0, L.lst 48 re0_1, L.int IntKind.i64 re0_2, L.int IntKind.i64 re0_3, L.lst 25 re0_4]))
    (some [(.bool (true))])
    (dupN 1
     (cond (isRs re0_1)
      (cond (isRs re0_1)
       (cond (!hasI (decRs re0_1) c1 == hasI (decRs re0_1) c1)
        (some [(.bool (false))])
        (G (LFolds_q7 re0_0 re0_1 re0_2 re0_3 re0_4)))
       none)
      none)))
   none) := by kernel_rfl
theorem LFolds_p7 (G : Req → R) (h0_0 : Int) (h0_1 : List (List L)) (h0_2 : Int) (h0_3 : Int) (h0_4 : List (List L)) : runB (cfg [k_alive, k_small, k_Has, k_rHas, k_rRight, (k_Lens 1000000000000), (k_rLens 1000000000000), (k_Fold 1000000000000), (k_rFold 1000000000000), (k_rSame 1000000000000)]) G (LFolds_q7 h0_0 h0_1 h0_2 h0_3 h0_4) =
  (cond (isX [L.int IntKind.i64 h0_0, L.lst 48 h0_1, L.int IntKind.i64 h0_2, L.int IntKind.i64 h0_3, L.lst 25 h0_4] 1000000000000)
   (cond (rightS (decX [L.int IntKind.i64 h0_0, L.lst 48 h0_1, L.int IntKind.i64 h0_2, L.int IntKind.i64 h0_3, L.lst 25 h0_4]) != 0)
    (some [(.bool (true))])
    (cond (isX [L.int IntKind.i64 h0_0, L.lst 48 h0_1, L.int IntKind.i64 h0_2, L.int IntKind.i64 h0_3, L.lst 25 h0_4] 1000000000000 && nodeS (decX [L.int IntKind.i64 h0_0, L.lst 48 h0_1, L.int IntKind.i64 h0_2, L.int IntKind.i64 h0_3, L.lst 25 h0_4]) == 0)
     (cond (isX [L.int IntKind.i64 h0_0, L.lst 48 h0_1, L.int IntKind.i64 h0_2, L.int IntKind.i64 h0_3, L.lst 25 h0_4] 1000000000000 && nodeS (decX [L.int IntKind.i64 h0_0, L.lst 48 h0_1, L.int IntKind.i64 h0_2, L.int IntKind.i64 h0_3, L.lst 25 h0_4]) == 0)
      (G (LFolds_q11 (Prod.fst (lenS (decX [L.int IntKind.i64 h0_0, L.lst 48 h0_1, L.int IntKind.i64 h0_2, L.int IntKind.i64 h0_3, L.lst 25 h0_4]))) (Prod.snd (lenS (decX [L.int IntKind.i64 h0_0, L.lst 48 h0_1, L.int IntKind.i64 h0_2, L.int IntKind.i64 h0_3, L.lst 25 h0_4]))) (Prod.fst (lenS (decX [L.int IntKind.i64 h0_0, L.lst 48 h0_1, L.int IntKind.i64 h0_2, L.int IntKind.i64 h0_3, L.lst 25 h0_4]))) (Prod.snd (lenS (decX [L.int IntKind.i64 h0_0, L.lst 48 h0_1, L.int IntKind.i64 h0_2, L.int IntKind.i64 h0_3, L.lst 25 h0_4]))) h0_0 h0_1 h0_2 h0_3 h0_4))
      none)
     none))
   none) := by kernel_rfl
theorem LFolds_p11 (G : Req → R) (a5 : Int) (b6 : Int) (x7 : Int) (y8 : Int) (h0_0 : Int) (h0_1 : List (List L)) (h0_2 : Int) (h0_3 : Int) (h0_4 : List (List L)) : runB (cfg [k_alive, k_small, k_Has, k_rHas, k_rRight, (k_Lens 1000000000000), (k_rLens 1000000000000), (k_Fold 1000000000000), (k_rFold 1000000000000), (k_rSame 1000000000000)]) G (LFolds_q11 a5 b6 x7 y8 h0_0 h0_1 h0_2 h0_3 h0_4) =
  (cond (a5 == x7)
   (cond (b6 == y8)
    (dupN 1
     (cond (isX [L.int IntKind.i64 h0_0, L.lst 48 h0_1, L.int IntKind.i64 h0_2, L.int IntKind.i64 h0_3, L.lst 25 h0_4] 1000000000000)
      (cond (isX [L.int IntKind.i64 h0_0, L.lst 48 h0_1, L.int IntKind.i64 h0_2, L.int IntKind.i64 h0_3, L.lst 25 h0_4] 1000000000000 && nodeS (decX [L.int IntKind.i64 h0_0, L.lst 48 h0_1, L.int IntKind.i64 h0_2, L.int IntKind.i64 h0_3, L.lst 25 h0_4]) == 0)
       (cond (isX [L.int IntKind.i64 (Rx.kind (foldX (decX [L.int IntKind.i64 h0_0, L.lst 48 h0_1, L.int IntKind.i64 h0_2, L.int IntKind.i64 h0_3, L.lst 25 h0_4]))), L.lst 48 (encRs (Rx.set (foldX (decX [L.int IntKind.i64 h0_0, L.lst 48 h0_1, L.int IntKind.i64 h0_2, L.int IntKind.i64 h0_3, L.lst 25 h0_4])))), L.int IntKind.i64 (Rx.mn (foldX (decX [L.int IntKind.i64 h0_0, L.lst 48 h0_1, L.int IntKind.i64 h0_2, L.int IntKind.i64 h0_3, L.lst 25 h0_4]))), L.int IntKind.i64 (Rx.mx (foldX (decX [L.int IntKind.i64 h0_0, L.lst 48 h0_1, L.int IntKind.i64 h0_2, L.int IntKind.i64 h0_3, L.lst 25 h0_4]))), L.lst 25 (List.map encX (Rx.subs (foldX (decX [L.int IntKind.i64 h0_0, L.lst 48 h0_1, L.int IntKind.i64 h0_2, L.int IntKind.i64 h0_3, L.lst 25 h0_4]))))] 1000000000000 && isX [L.int IntKind.i64 (Rx.kind (foldX (decX [L.int IntKind.i64 h0_0, L.lst 48 h0_1, L.int IntKind.i64 h0_2, L.int IntKind.i64 h0_3, L.lst 25 h0_4]))), L.lst 48 (encRs (Rx.set (foldX (decX [L.int IntKind.i64 h0_0, L.lst 48 h0_1, L.int IntKind.i64 h0_2, L.int IntKind.i64 h0_3, L.lst 25 h0_4])))), L.int IntKind.i64 (Rx.mn (foldX (decX [L.int IntKind.i64 h0_0, L.lst 48 h0_1, L.int IntKind.i64 h0_2, L.int IntKind.i64 h0_3, L.lst 25 h0_4]))), L.int IntKind.i64 (Rx.mx (foldX (decX [L.int IntKind.i64 h0_0, L.lst 48 h0_1, L.int IntKind.i64 h0_2, L.int IntKind.i64 h0_3, L.lst 25 h0_4]))), L.lst 25 (List.map encX (Rx.subs (foldX (decX [L.int IntKind.i64 h0_0, L.lst 48 h0_1, L.int IntKind.i64 h0_2, L.int IntKind.i64 h0_3, L.lst 25 h0_4]))))] 1000000000000)
        (some [(.bool (sameX (decX [L.int IntKind.i64 (Rx.kind (foldX (decX [L.int IntKind.i64 h0_0, L.lst 48 h0_1, L.int IntKind.i64 h0_2, L.int IntKind.i64 h0_3, L.lst 25 h0_4]))), L.lst 48 (encRs (Rx.set (foldX (decX [L.int IntKind.i64 h0_0, L.lst 48 h0_1, L.int IntKind.i64 h0_2, L.int IntKind.i64 h0_3, L.lst 25 h0_4])))), L.int IntKind.i64 (Rx.mn (foldX (decX [L.int IntKind.i64 h0_0, L.lst 48 h0_1, L.int IntKind.i64 h0_2, L.int IntKind.i64 h0_3, L.lst 25 h0_4]))), L.int IntKind.i64 (Rx.mx (foldX (decX [L.int IntKind.i64 h0_0, L.lst 48 h0_1, L.int IntKind.i64 h0_2, L.int IntKind.i64 h0_3, L.lst 25 h0_4]))), L.lst 25 (List.map encX (Rx.subs (foldX (decX [L.int IntKind.i64 h0_0, L.lst 48 h0_1, L.int IntKind.i64 h0_2, L.int IntKind.i64 h0_3, L.lst 25 h0_4]))))]) (decX [L.int IntKind.i64 (Rx.kind (foldX (decX [L.int IntKind.i64 h0_0, L.lst 48 h0_1, L.int IntKind.i64 h0_2, L.int IntKind.i64 h0_3, L.lst 25 h0_4]))), L.lst 48 (encRs (Rx.set (foldX (decX [L.int IntKind.i64 h0_0, L.lst 48 h0_1, L.int IntKind.i64 h0_2, L.int IntKind.i64 h0_3, L.lst 25 h0_4])))), L.int IntKind.i64 (Rx.mn (foldX (decX [L.int IntKind.i64 h0_0, L.lst 48 h0_1, L.int IntKind.i64 h0_2, L.int IntKind.i64 h0_3, L.lst 25 h0_4]))), L.int IntKind.i64 (Rx.mx (foldX (decX [L.int IntKind.i64 h0_0, L.lst 48 h0_1, L.int IntKind.i64 h0_2, L.int IntKind.i64 h0_3, L.lst 25 h0_4]))), L.lst 25 (List.map encX (Rx.subs (foldX (decX [L.int IntKind.i64 h0_0, L.lst 48 h0_1, L.int IntKind.i64 h0_2, L.int IntKind.i64 h0_3, L.lst 25 h0_4]))))])))])
        none)
       none)
      none))
    (dupN 1
     (some [(.bool (false))])))
   (dupN 1
    (some [(.bool (false))]))) := by kernel_rfl

/-! codesearch/codesearchlaw08.covers -/
noncomputable def covers_q4 (i5 : Int) (h0_0 : Int) (h0_1 : List (List L)) (h0_2 : Int) (h0_3 : Int) (h0_4 : List (List L)) (h1_0 : Int) (h1_1 : List (List L)) (h1_2 : Int) (h1_3 : Int) (h1_4 : List (List L)) : Req := .point 26 [] (todoAt Tryd.prog 26 4) ⟨[an, an, (.lf (.ptr 0 0)), (.lf (.ptr 1 0)), an, (.lf (.int IntKind.i64 i5)), an, an, an, an, an, an, an, an, an, an, an, an, an, an, an, an, an, an, an, an, an, an, an, an, an, an, an, an, an, an, an, an, an, an, an, an, an, an, an, an, an, an, an, an, an, an, an, an, an, an, an, an, an, an, an, an, an, an, an, an, an, an, an, an, an, an, an, an, an, an, an, an, an, an, an, an, an, an, an, an, an, an, an, an, an, an, an, an, an, an], [(.box [(.int IntKind.i64), (.sl 48), (.int IntKind.i64), (.int IntKind.i64), (.sl 25)] [(.int IntKind.i64 h0_0), (.lst 48 h0_1), (.int IntKind.i64 h0_2), (.int IntKind.i64 h0_3), (.lst 25 h0_4)]), (.box [(.int IntKind.i64), (.sl 48), (.int IntKind.i64), (.int IntKind.i64), (.sl 25)] [(.int IntKind.i64 h1_0), (.lst 48 h1_1), (.int IntKind.i64 h1_2), (.int IntKind.i64 h1_3), (.lst 25 h1_4)])]⟩
noncomputable def covers_q12 (i5 : Int) (c6 : Int) (d7 : Int) (h0_0 : Int) (h0_1 : List (List L)) (h0_2 : Int) (h0_3 : Int) (h0_4 : List (List L)) (h1_0 : Int) (h1_1 : List (List L)) (h1_2 : Int) (h1_3 : Int) (h1_4 : List (List L)) : Req := .point 26 [] (todoAt Tryd.prog 26 12) ⟨[an, an, (.lf (.ptr 0 0)), (.lf (.ptr 1 0)), an, (.lf (.int IntKind.i64 i5)), (.lf (.int IntKind.u8 c6)), (.lf (.int IntKind.u8 d7)), an, an, an, an, an, an, an, an, an, an, an, an, an, an, an, an, an, an, an, an, an, an, an, an, an, an, an, an, an, an, an, an, an, an, an, an, an, an, an, an, an, an, an, an, an, an, an, an, an, an, an, an, an, an, an, an, an, an, an, an, an, an, an, an, an, an, an, an, an, an, an, an, an, an, an, an, an, an, an, an, an, an, an, an, an, an, an, an], [(.box [(.int IntKind.i64), (.sl 48), (.int IntKind.i64), (.int IntKind.i64), (.sl 25)] [(.int IntKind.i64 h0_0), (.lst 48 h0_1), (.int IntKind.i64 h0_2), (.int IntKind.i64 h0_3), (.lst 25 h0_4)]), (.box [(.int IntKind.i64), (.sl 48), (.int IntKind.i64), (.int IntKind.i64), (.sl 25)] [(.int IntKind.i64 h1_0), (.lst 48 h1_1), (.int IntKind.i64 h1_2), (.int IntKind.i64 h1_3), (.lst 25 h1_4)])]⟩
noncomputable def covers_q14 (h0_0 : Int) (h0_1 : List (List L)) (h0_2 : Int) (h0_3 : Int) (h0_4 : List (List L)) (h1_0 : Int) (h1_1 : List (List L)) (h1_2 : Int) (h1_3 : Int) (h1_4 : List (List L)) : Req := .point 26 [] (todoAt Tryd.prog 26 14) ⟨[an, an, (.lf (.ptr 0 0)), (.lf (.ptr 1 0)), an, an, an, an, an, an, an, an, an, an, an, an, an, an, an, an, an, an, an, an, an, an, an, an, an, an, an, an, an, an, an, an, an, an, an, an, an, an, an, an, an, an, an, an, an, an, an, an, an, an, an, an, an, an, an, an, an, an, an, an, an, an, an, an, an, an, an, an, an, an, an, an, an, an, an, an, an, an, an, an, an, an, an, an, an, an, an, an, an, an, an, an], [(.box [(.int IntKind.i64), (.sl 48), (.int IntKind.i64), (.int IntKind.i64), (.sl 25)] [(.int IntKind.i64 h0_0), (.lst 48 h0_1), (.int IntKind.i64 h0_2), (.int IntKind.i64 h0_3), (.lst 25 h0_4)]), (.box [(.int IntKind.i64), (.sl 48), (.int IntKind.i64), (.int IntKind.i64), (.sl 25)] [(.int IntKind.i64 h1_0), (.lst 48 h1_1), (.int IntKind.i64 h1_2), (.int IntKind.i64 h1_3), (.lst 25 h1_4)])]⟩
noncomputable def covers_q15 (i8 : Int) (h0_0 : Int) (h0_1 : List (List L)) (h0_2 : Int) (h0_3 : Int) (h0_4 : List (List L)) (h1_0 : Int) (h1_1 : List (List L)) (h1_2 : Int) (h1_3 : Int) (h1_4 : List (List L)) : Req := .point 26 [] (todoAt Tryd.prog 26 15) ⟨[an, an, (.lf (.ptr 0 0)), (.lf (.ptr 1 0)), an, an, an, an, (.lf (.int IntKind.i64 i8)), an, an, an, an, an, an, an, an, an, an, an, an, an, an, an, an, an, an, an, an, an, an, an, an, an, an, an, an, an, an, an, an, an, an, an, an, an, an, an, an, an, an, an, an, an, an, an, an, an, an, an, an, an, an, an, an, an, an, an, an, an, an, an, an, an, an, an, an, an, an, an, an, an, an, an, an, an, an, an, an, an, an, an, an, an, an, an], [(.box [(.int IntKind.i64), (.sl 48), (.int IntKind.i64), (.int IntKind.i64), (.sl 25)] [(.int IntKind.i64 h0_0), (.lst 48 h0_1), (.int IntKind.i64 h0_2), (.int IntKind.i64 h0_3), (.lst 25 h0_4)]), (.box [(.int IntKind.i64), (.sl 48), (.int IntKind.i64), (.int IntKind.i64), (.sl 25)] [(.int IntKind.i64 h1_0), (.lst 48 h1_1), (.int IntKind.i64 h1_2), (.int IntKind.i64 h1_3), (.lst 25 h1_4)])]⟩
noncomputable def covers_q17 (i8 : Int) (h0_0 : Int) (h0_1 : List (List L)) (h0_2 : Int) (h0_3 : Int) (h0_4 : List (List L)) (h1_0 : Int) (h1_1 : List (List L)) (h1_2 : Int) (h1_3 : Int) (h1_4 : List (List L)) : Req := .point 26 [] (todoAt Tryd.prog 26 17) ⟨[an, an, (.lf (.ptr 0 0)), (.lf (.ptr 1 0)), an, an, an, an, (.lf (.int IntKind.i64 i8)), an, an, an, an, an, an, an, an, an, an, an, an, an, an, an, an, an, an, an, an, an, an, an, an, an, an, an, an, an, an, an, an, an, an, an, an, an, an, an, an, an, an, an, an, an, an, an, an, an, an, an, an, an, an, an, an, an, an, an, an, an, an, an, an, an, an, an, an, an, an, an, an, an, an, an, an, an, an, an, an, an, an, an, an, an, an, an], [(.box [(.int IntKind.i64), (.sl 48), (.int IntKind.i64), (.int IntKind.i64), (.sl 25)] [(.int IntKind.i64 h0_0), (.lst 48 h0_1), (.int IntKind.i64 h0_2), (.int IntKind.i64 h0_3), (.lst 25 h0_4)]), (.box [(.int IntKind.i64), (.sl 48), (.int IntKind.i64), (.int IntKind.i64), (.sl 25)] [(.int IntKind.i64 h1_0), (.lst 48 h1_1), (.int IntKind.i64 h1_2), (.int IntKind.i64 h1_3), (.lst 25 h1_4)])]⟩
theorem covers_e (G : Req → R) (m : Nat) (a0_0 : Int) (a0_1 : List (List L)) (a0_2 : Int) (a0_3 : Int) (a0_4 : List (List L)) (b1_0 : Int) (b1_1 : List (List L)) (b1_2 : Int) (b1_3 : Int) (b1_4 : List (List L)) : runB (cfg [(k_covers m), k_Has]) G (.enter 26 [(.agg [(.int IntKind.i64 (a0_0)), (.lst 48 a0_1), (.int IntKind.i64 (a0_2)), (.int IntKind.i64 (a0_3)), (.lst 25 a0_4)]), (.agg [(.int IntKind.i64 (b1_0)), (.lst 48 b1_1), (.int IntKind.i64 (b1_2)), (.int IntKind.i64 (b1_3)), (.lst 25 b1_4)])] []) =
  (cond (a0_0 != b1_0)
   (some [(.bool (false))])
   (cond (a0_2 != b1_2)
    (some [(.bool (false))])
    (cond (a0_3 != b1_3)
     (some [(.bool (false))])
     (cond ((↑(List.length a0_4) : Int) != (↑(List.length b1_4) : Int))
      (some [(.bool (false))])
      (G (covers_q4 0 a0_0 a0_1 a0_2 a0_3 a0_4 b1_0 b1_1 b1_2 b1_3 b1_4)))))) := by kernel_rfl
theorem covers_p4 (G : Req → R) (m : Nat) (i5 : Int) (h0_0 : Int) (h0_1 : List (List L)) (h0_2 : Int) (h0_3 : Int) (h0_4 : List (List L)) (h1_0 : Int) (h1_1 : List (List L)) (h1_2 : Int) (h1_3 : Int) (h1_4 : List (List L)) : runB (cfg [(k_covers m), k_Has]) G (covers_q4 i5 h0_0 h0_1 h0_2 h0_3 h0_4 h1_0 h1_1 h1_2 h1_3 h1_4) =
  (cond (ltI i5 256)
   (cond (leI 97 (wrapI IntKind.u8 i5))
    (cond (leI (wrapI IntKind.u8 i5) 122)
     (G (covers_q12 i5 (wrapI IntKind.u8 i5) (wrapI IntKind.u8 (wrapI IntKind.u8 (wrapI IntKind.u8 i5 - 97) + 65)) h0_0 h0_1 h0_2 h0_3 h0_4 h1_0 h1_1 h1_2 h1_3 h1_4))
     (cond (leI 65 (wrapI IntKind.u8 i5))
      (cond (leI (wrapI IntKind.u8 i5) 90)
       (G (covers_q12 i5 (wrapI IntKind.u8 i5) (wrapI IntKind.u8 (wrapI IntKind.u8 (wrapI IntKind.u8 i5 - 65) + 97)) h0_0 h0_1 h0_2 h0_3 h0_4 h1_0 h1_1 h1_2 h1_3 h1_4))
       (G (covers_q12 i5 (wrapI IntKind.u8 i5) (wrapI IntKind.u8 i5) h0_0 h0_1 h0_2 h0_3 h0_4 h1_0 h1_1 h1_2 h1_3 h1_4)))
      (G (covers_q12 i5 (wrapI IntKind.u8 i5) (wrapI IntKind.u8 i5) h0_0 h0_1 h0_2 h0_3 h0_4 h1_0 h1_1 h1_2 h1_3 h1_4))))
    (cond (leI 65 (wrapI IntKind.u8 i5))
     (cond (leI (wrapI IntKind.u8 i5) 90)
      (G (covers_q12 i5 (wrapI IntKind.u8 i5) (wrapI IntKind.u8 (wrapI IntKind.u8 (wrapI IntKind.u8 i5 - 65) + 97)) h0_0 h0_1 h0_2 h0_3 h0_4 h1_0 h1_1 h1_2 h1_3 h1_4))
      (G (covers_q12 i5 (wrapI IntKind.u8 i5) (wrapI IntKind.u8 i5) h0_0 h0_1 h0_2 h0_3 h0_4 h1_0 h1_1 h1_2 h1_3 h1_4)))
     (G (covers_q12 i5 (wrapI IntKind.u8 i5) (wrapI IntKind.u8 i5) h0_0 h0_1 h0_2 h0_3 h0_4 h1_0 h1_1 h1_2 h1_3 h1_4))))
   (G (covers_q14 h0_0 h0_1 h0_2 h0_3 h0_4 h1_0 h1_1 h1_2 h1_3 h1_4))) := by kernel_rfl
theorem covers_p12 (G : Req → R) (m : Nat) (i5 : Int) (c6 : Int) (d7 : Int) (h0_0 : Int) (h0_1 : List (List L)) (h0_2 : Int) (h0_3 : Int) (h0_4 : List (List L)) (h1_0 : Int) (h1_1 : List (List L)) (h1_2 : Int) (h1_3 : Int) (h1_4 : List (List L)) : runB (cfg [(k_covers m), k_Has]) G (covers_q12 i5 c6 d7 h0_0 h0_1 h0_2 h0_3 h0_4 h1_0 h1_1 h1_2 h1_3 h1_4) =
  (dupN 1
   (cond (isRs h1_1)
    (cond (isRs h0_1)
     (cond (hasI (decRs h0_1) c6)
      (cond (!hasI (decRs h1_1) c6 == true)
       (some [(.bool (false))])
       (G (covers_q4 (wrapI IntKind.i64 (i5 + 1)) h0_0 h0_1 h0_2 h0_3 h0_4 h1_0 h1_1 h1_2 h1_3 h1_4)))
      (cond (isRs h0_1)
       (cond (!hasI (decRs h1_1) c6 == hasI (decRs h0_1) d7)
        (some [(.bool (false))])
        (G (covers_q4 (wrapI IntKind.i64 (i5 + 1)) h0_0 h0_1 h0_2 h0_3 h0_4 h1_0 h1_1 h1_2 h1_3 h1_4)))
       none))
     none)
    none)) := by kernel_rfl
theorem covers_p14 (G : Req → R) (m : Nat) (h0_0 : Int) (h0_1 : List (List L)) (h0_2 : Int) (h0_3 : Int) (h0_4 : List (List L)) (h1_0 : Int) (h1_1 : List (List L)) (h1_2 : Int) (h1_3 : Int) (h1_4 : List (List L)) : runB (cfg [(k_covers m), k_Has]) G (covers_q14 h0_0 h0_1 h0_2 h0_3 h0_4 h1_0 h1_1 h1_2 h1_3 h1_4) =
  (G (covers_q15 0 h0_0 h0_1 h0_2 h0_3 h0_4 h1_0 h1_1 h1_2 h1_3 h1_4)) := by kernel_rfl
theorem covers_p15 (G : Req → R) (m : Nat) (i8 : Int) (h0_0 : Int) (h0_1 : List (List L)) (h0_2 : Int) (h0_3 : Int) (h0_4 : List (List L)) (h1_0 : Int) (h1_1 : List (List L)) (h1_2 : Int) (h1_3 : Int) (h1_4 : List (List L)) : runB (cfg [(k_covers m), k_Has]) G (covers_q15 i8 h0_0 h0_1 h0_2 h0_3 h0_4 h1_0 h1_1 h1_2 h1_3 h1_4) =
  (cond (ltI i8 (↑(List.length h0_4) : Int))
   (G (covers_q17 i8 h0_0 h0_1 h0_2 h0_3 h0_4 h1_0 h1_1 h1_2 h1_3 h1_4))
   (some [(.bool (true))])) := by kernel_rfl
theorem covers_p17 (G : Req → R) (m : Nat) (i8 : Int) (h0_0 : Int) (h0_1 : List (List L)) (h0_2 : Int) (h0_3 : Int) (h0_4 : List (List L)) (h1_0 : Int) (h1_1 : List (List L)) (h1_2 : Int) (h1_3 : Int) (h1_4 : List (List L)) : runB (cfg [(k_covers m), k_Has]) G (covers_q17 i8 h0_0 h0_1 h0_2 h0_3 h0_4 h1_0 h1_1 h1_2 h1_3 h1_4) =
  (cond (leI 0 i8 && ltI i8 (↑(List.length h0_4) : Int))
   (cond (leI 0 i8 && ltI i8 (↑(List.length h1_4) : Int))
    (cond (isX [L.int IntKind.i64 (cI 0 (atL h0_4 i8)), L.lst 48 (cX 1 (atL h0_4 i8)), L.int IntKind.i64 (cI 2 (atL h0_4 i8)), L.int IntKind.i64 (cI 3 (atL h0_4 i8)), L.lst 25 (cX 4 (atL h0_4 i8))] m && isX [L.int IntKind.i64 (cI 0 (atL h1_4 i8)), L.lst 48 (cX 1 (atL h1_4 i8)), L.int IntKind.i64 (cI 2 (atL h1_4 i8)), L.int IntKind.i64 (cI 3 (atL h1_4 i8)), L.lst 25 (cX 4 (atL h1_4 i8))] 1000000000000)
     (cond (!coversP (decX [L.int IntKind.i64 (cI 0 (atL h0_4 i8)), L.lst 48 (cX 1 (atL h0_4 i8)), L.int IntKind.i64 (cI 2 (atL h0_4 i8)), L.int IntKind.i64 (cI 3 (atL h0_4 i8)), L.lst 25 (cX 4 (atL h0_4 i8))]) (decX [L.int IntKind.i64 (cI 0 (atL h1_4 i8)), L.lst 48 (cX 1 (atL h1_4 i8)), L.int IntKind.i64 (cI 2 (atL h1_4 i8)), L.int IntKind.i64 (cI 3 (atL h1_4 i8)), L.lst 25 (cX 4 (atL h1_4 i8))]))
      (some [(.bool (false))])
      (G (covers_q15 (wrapI IntKind.i64 (i8 + 1)) h0_0 h0_1 h0_2 h0_3 h0_4 h1_0 h1_1 h1_2 h1_3 h1_4)))
     none)
    none)
   none) := by kernel_rfl

/-! codesearch/codesearchlaw08.RegexFolding -/
noncomputable def LFolding_q7 (a4 : Int) (b5 : Int) (h0_0 : Int) (h0_1 : List (List L)) (h0_2 : Int) (h0_3 : Int) (h0_4 : List (List L)) (h1_0 : Int) (h1_1 : List (List L)) (h1_2 : Int) (h1_3 : Int) (h1_4 : List (List L)) : Req := .point 9 [] (todoAt Tryd.prog 9 7) ⟨[an, (.lf (.ptr 0 0)), an, (.lf (.ptr 1 0)), (.lf (.int IntKind.i64 a4)), (.lf (.int IntKind.i64 b5)), an, an, an, an, an, an, an, an, an, an, an, an, an, an, an, an, an, an, an, an, an, an, an, an, an, an, an, an, an, an, an, an, an, an, an, an, an, an, an, an, an, an, an, an, an, an, an, an], [(.box [(.int IntKind.i64), (.sl 48), (.int IntKind.i64), (.int IntKind.i64), (.sl 25)] [(.int IntKind.i64 h0_0), (.lst 48 h0_1), (.int IntKind.i64 h0_2), (.int IntKind.i64 h0_3), (.lst 25 h0_4)]), (.box [(.int IntKind.i64), (.sl 48), (.int IntKind.i64), (.int IntKind.i64), (.sl 25)] [(.int IntKind.i64 h1_0), (.lst 48 h1_1), (.int IntKind.i64 h1_2), (.int IntKind.i64 h1_3), (.lst 25 h1_4)])]⟩
noncomputable def LFolding_q8 (a4 : Int) (b5 : Int) (c6 : Int) (d7 : Int) (h0_0 : Int) (h0_1 : List (List L)) (h0_2 : Int) (h0_3 : Int) (h0_4 : List (List L)) (h1_0 : Int) (h1_1 : List (List L)) (h1_2 : Int) (h1_3 : Int) (h1_4 : List (List L)) : Req := .point 9 [] (todoAt Tryd.prog 9 8) ⟨[an, (.lf (.ptr 0 0)), an, (.lf (.ptr 1 0)), (.lf (.int IntKind.i64 a4)), (.lf (.int IntKind.i64 b5)), (.lf (.int IntKind.i64 c6)), (.lf (.int IntKind.i64 d7)), an, an, an, an, an, an, an, an, an, an, an, an, an, an, an, an, an, an, an, an, an, an, an, an, an, an, an, an, an, an, an, an, an, an, an, an, an, an, an, an, an, an, an, an, an, an], [(.box [(.int IntKind.i64), (.sl 48), (.int IntKind.i64), (.int IntKind.i64), (.sl 25)] [(.int IntKind.i64 h0_0), (.lst 48 h0_1), (.int IntKind.i64 h0_2), (.int IntKind.i64 h0_3), (.lst 25 h0_4)]), (.box [(.int IntKind.i64), (.sl 48), (.int IntKind.i64), (.int IntKind.i64), (.sl 25)] [(.int IntKind.i64 h1_0), (.lst 48 h1_1), (.int IntKind.i64 h1_2), (.int IntKind.i64 h1_3), (.lst 25 h1_4)])]⟩
theorem LFolding_e (G : Req → R) (re0_0 : Int) (re0_1 : List (List L)) (re0_2 : Int) (re0_3 : Int) (re0_4 : List (List L)) : runB (cfg [k_alive, k_small, k_rRight, (k_Fold 1000000000000), (k_Lens 1000000000000), (k_covers 1000000000000), (k_rSame 1000000000000), k_Right]) G (.enter 9 [(.agg [(.int IntKind.i64 (re0_0)), (.lst 48 re0_1), (.int IntKind.i64 (re0_2)), (.int IntKind.i64 (re0_3)), (.lst 25 re0_4)])] []) =
  (cond (isXa [L.int IntKind.i64 re0_0, L.lst 48 re0_1, L.int IntKind.i64 re0_2, L.int IntKind.i64 re0_3, L.lst 25 re0_4])
   (cond (!smallX (decX [L.int IntKind.i64 re0_0, L.lst 48 re0_1, L.int IntKind.i64 re0_2, L.int IntKind.i64 re0_3, L.lst 25 re0_4]))
    (some [(.bool (true))])
    (cond (isX [L.int IntKind.i64 re0_0, L.lst 48 re0_1, L.int IntKind.i64 re0_2, L.int IntKind.i64 re0_3, L.lst 25 re0_4] 1000000000000)
     (cond (rightS (decX [L.int IntKind.i64 re0_0, L.lst 48 re0_1, L.int IntKind.i64 re0_2, L.int IntKind.i64 re0_3, L.lst 25 re0_4]) != 0)
      (some [(.bool (true))])
      (cond (isX [L.int IntKind.i64 re0_0, L.lst 48 re0_1, L.int IntKind.i64 re0_2, L.int IntKind.i64 re0_3, L.lst 25 re0_4] 1000000000000)
       (cond (isX [L.int IntKind.i64 re0_0, L.lst 48 re0_1, L.int IntKind.i64 re0_2, L.int IntKind.i64 re0_3, L.lst 25 re0_4] 1000000000000 && nodeS (decX [L.int IntKind.i64 re0_0, L.lst 48 re0_1, L.int IntKind.i64 re0_2, L.int IntKind.i64 re0_3, L.lst 25 re0_4]) == 0)
        (G (LFolding_q7 (Prod.fst (lenS (decX [L.int IntKind.i64 re0_0, L.lst 48 re0_1, L.int IntKind.i64 re0_2, L.int IntKind.i64 re0_3, L.lst 25 re0_4]))) (Prod.snd (lenS (decX [L.int IntKind.i64 re0_0, L.lst 48 re0_1, L.int IntKind.i64 re0_2, L.int IntKind.i64 re0_3, L.lst 25 re0_4]))) re0_0 re0_1 re0_2 re0_3 re0_4 (Rx.kind (foldX (decX [L.int IntKind.i64 re0_0, L.lst 48 re0_1, L.int IntKind.i64 re0_2, L.int IntKind.i64 re0_3, L.lst 25 re0_4]))) (encRs (Rx.set (foldX (decX [L.int IntKind.i64 re0_0, L.lst 48 re0_1, L.int IntKind.i64 re0_2, L.int IntKind.i64 re0_3, L.lst 25 re0_4])))) (Rx.mn (foldX (decX [L.int IntKind.i64 re0_0, L.lst 48 re0_1, L.int IntKind.i64 re0_2, L.int IntKind.i64 re0_3, L.lst 25 re0_4]))) (Rx.mx (foldX (decX [L.int IntKind.i64 re0_0, L.lst 48 re0_1, L.int IntKind.i64 re0_2, L.int IntKind.i64 re0_3, L.lst 25 re0_4]))) (List.map encX (Rx.subs (foldX (decX [L.int IntKind.i64 re0_0, L.lst 48 re0_1, L.int IntKind.i64 re0_2, L.int IntKind.i64 re0_3, L.lst 25 re0_4]))))))
        none)
       none))
     none))
   none) := by kernel_rfl
theorem LFolding_p7 (G : Req → R) (a4 : Int) (b5 : Int) (h0_0 : Int) (h0_1 : List (List L)) (h0_2 : Int) (h0_3 : Int) (h0_4 : List (List L)) (h1_0 : Int) (h1_1 : List (List L)) (h1_2 : Int) (h1_3 : Int) (h1_4 : List (List L)) : runB (cfg [k_alive, k_small, k_rRight, (k_Fold 1000000000000), (k_Lens 1000000000000), (k_covers 1000000000000), (k_rSame 1000000000000), k_Right]) G (LFolding_q7 a4 b5 h0_0 h0_1 h0_2 h0_3 h0_4 h1_0 h1_1 h1_2 h1_3 h1_4) =
  (cond (isX [L.int IntKind.i64 h1_0, L.lst 48 h1_1, L.int IntKind.i64 h1_2, L.int IntKind.i64 h1_3, L.lst 25 h1_4] 1000000000000 && nodeS (decX [L.int IntKind.i64 h1_0, L.lst 48 h1_1, L.int IntKind.i64 h1_2, L.int IntKind.i64 h1_3, L.lst 25 h1_4]) == 0)
   (G (LFolding_q8 a4 b5 (Prod.fst (lenS (decX [L.int IntKind.i64 h1_0, L.lst 48 h1_1, L.int IntKind.i64 h1_2, L.int IntKind.i64 h1_3, L.lst 25 h1_4]))) (Prod.snd (lenS (decX [L.int IntKind.i64 h1_0, L.lst 48 h1_1, L.int IntKind.i64 h1_2, L.int IntKind.i64 h1_3, L.lst 25 h1_4]))) h0_0 h0_1 h0_2 h0_3 h0_4 h1_0 h1_1 h1_2 h1_3 h1_4))
   none) := by kernel_rfl
theorem LFolding_p8 (G : Req → R) (a4 : Int) (b5 : Int) (c6 : Int) (d7 : Int) (h0_0 : Int) (h0_1 : List (List L)) (h0_2 : Int) (h0_3 : Int) (h0_4 : List (List L)) (h1_0 : Int) (h1_1 : List (List L)) (h1_2 : Int) (h1_3 : Int) (h1_4 : List (List L)) : runB (cfg [k_alive, k_small, k_rRight, (k_Fold 1000000000000), (k_Lens 1000000000000), (k_covers 1000000000000), (k_rSame 1000000000000), k_Right]) G (LFolding_q8 a4 b5 c6 d7 h0_0 h0_1 h0_2 h0_3 h0_4 h1_0 h1_1 h1_2 h1_3 h1_4) =
  (dupN 1
   (cond (isX [L.int IntKind.i64 h0_0, L.lst 48 h0_1, L.int IntKind.i64 h0_2, L.int IntKind.i64 h0_3, L.lst 25 h0_4] 1000000000000 && isX [L.int IntKind.i64 h1_0, L.lst 48 h1_1, L.int IntKind.i64 h1_2, L.int IntKind.i64 h1_3, L.lst 25 h1_4] 1000000000000)
    (both
     (cond (coversP (decX [L.int IntKind.i64 h0_0, L.lst 48 h0_1, L.int IntKind.i64 h0_2, L.int IntKind.i64 h0_3, L.lst 25 h0_4]) (decX [L.int IntKind.i64 h1_0, L.lst 48 h1_1, L.int IntKind.i64 h1_2, L.int IntKind.i64 h1_3, L.lst 25 h1_4]))
      (dupN 1
       (cond (isX [L.int IntKind.i64 h1_0, L.lst 48 h1_1, L.int IntKind.i64 h1_2, L.int IntKind.i64 h1_3, L.lst 25 h1_4] 1000000000000)
        (cond (isX [L.int IntKind.i64 (Rx.kind (foldX (decX [L.int IntKind.i64 h1_0, L.lst 48 h1_1, L.int IntKind.i64 h1_2, L.int IntKind.i64 h1_3, L.lst 25 h1_4]))), L.lst 48 (encRs (Rx.set (foldX (decX [L.int IntKind.i64 h1_0, L.lst 48 h1_1, L.int IntKind.i64 h1_2, L.int IntKind.i64 h1_3, L.lst 25 h1_4])))), L.int IntKind.i64 (Rx.mn (foldX (decX [L.int IntKind.i64 h1_0, L.lst 48 h1_1, L.int IntKind.i64 h1_2, L.int IntKind.i64 h1_3, L.lst 25 h1_4]))), L.int IntKind.i64 (Rx.mx (foldX (decX [L.int IntKind.i64 h1_0, L.lst 48 h1_1, L.int IntKind.i64 h1_2, L.int IntKind.i64 h1_3, L.lst 25 h1_4]))), L.lst 25 (List.map encX (Rx.subs (foldX (decX [L.int IntKind.i64 h1_0, L.lst 48 h1_1, L.int IntKind.i64 h1_2, L.int IntKind.i64 h1_3, L.lst 25 h1_4]))))] 1000000000000 && isX [L.int IntKind.i64 h1_0, L.lst 48 h1_1, L.int IntKind.i64 h1_2, L.int IntKind.i64 h1_3, L.lst 25 h1_4] 1000000000000)
         (cond (sameX (decX [L.int IntKind.i64 (Rx.kind (foldX (decX [L.int IntKind.i64 h1_0, L.lst 48 h1_1, L.int IntKind.i64 h1_2, L.int IntKind.i64 h1_3, L.lst 25 h1_4]))), L.lst 48 (encRs (Rx.set (foldX (decX [L.int IntKind.i64 h1_0, L.lst 48 h1_1, L.int IntKind.i64 h1_2, L.int IntKind.i64 h1_3, L.lst 25 h1_4])))), L.int IntKind.i64 (Rx.mn (foldX (decX [L.int IntKind.i64 h1_0, L.lst 48 h1_1, L.int IntKind.i64 h1_2, L.int IntKind.i64 h1_3, L.lst 25 h1_4]))), L.int IntKind.i64 (Rx.mx (foldX (decX [L.int IntKind.i64 h1_0, L.lst 48 h1_1, L.int IntKind.i64 h1_2, L.int IntKind.i64 h1_3, L.lst 25 h1_4]))), L.lst 25 (List.map encX (Rx.subs (foldX (decX [L.int IntKind.i64 h1_0, L.lst 48 h1_1, L.int IntKind.i64 h1_2, L.int IntKind.i64 h1_3, L.lst 25 h1_4]))))]) (decX [L.int IntKind.i64 h1_0, L.lst 48 h1_1, L.int IntKind.i64 h1_2, L.int IntKind.i64 h1_3, L.lst 25 h1_4]))
          (cond (a4 == c6)
           (cond (b5 == d7)
            (cond (isX [L.int IntKind.i64 h1_0, L.lst 48 h1_1, L.int IntKind.i64 h1_2, L.int IntKind.i64 h1_3, L.lst 25 h1_4] 1000000000000)
             (some [(.bool (rightS (decX [L.int IntKind.i64 h1_0, L.lst 48 h1_1, L.int IntKind.i64 h1_2, L.int IntKind.i64 h1_3, L.lst 25 h1_4]) == 0))])
             none)
            (some [(.bool (false))]))
           (some [(.bool (false))]))
          (some [(.bool (false))]))
         none)
        none))
      (dupN 1
       (some [(.bool (false))])))
     (cond (coversP (decX [L.int IntKind.i64 h0_0, L.lst 48 h0_1, L.int IntKind.i64 h0_2, L.int IntKind.i64 h0_3, L.lst 25 h0_4]) (decX [L.int IntKind.i64 h1_0, L.lst 48 h1_1, L.int IntKind.i64 h1_2, L.int IntKind.i64 h1_3, L.lst 25 h1_4]))
      (cond (isX [L.int IntKind.i64 h1_0, L.lst 48 h1_1, L.int IntKind.i64 h1_2, L.int IntKind.i64 h1_3, L.lst 25 h1_4] 1000000000000)
       (cond (isX [L.int IntKind.i64 (Rx.kind (foldX (decX [L.int IntKind.i64 h1_0, L.lst 48 h1_1, L.int IntKind.i64 h1_2, L.int IntKind.i64 h1_3, L.lst 25 h1_4]))), L.lst 48 (encRs (Rx.set (foldX (decX [L.int IntKind.i64 h1_0, L.lst 48 h1_1, L.int IntKind.i64 h1_2, L.int IntKind.i64 h1_3, L.lst 25 h1_4])))), L.int IntKind.i64 (Rx.mn (foldX (decX [L.int IntKind.i64 h1_0, L.lst 48 h1_1, L.int IntKind.i64 h1_2, L.int IntKind.i64 h1_3, L.lst 25 h1_4]))), L.int IntKind.i64 (Rx.mx (foldX (decX [L.int IntKind.i64 h1_0, L.lst 48 h1_1, L.int IntKind.i64 h1_2, L.int IntKind.i64 h1_3, L.lst 25 h1_4]))), L.lst 25 (List.map encX (Rx.subs (foldX (decX [L.int IntKind.i64 h1_0, L.lst 48 h1_1, L.int IntKind.i64 h1_2, L.int IntKind.i64 h1_3, L.lst 25 h1_4]))))] 1000000000000 && isX [L.int IntKind.i64 h1_0, L.lst 48 h1_1, L.int IntKind.i64 h1_2, L.int IntKind.i64 h1_3, L.lst 25 h1_4] 1000000000000)
        (cond (sameX (decX [L.int IntKind.i64 (Rx.kind (foldX (decX [L.int IntKind.i64 h1_0, L.lst 48 h1_1, L.int IntKind.i64 h1_2, L.int IntKind.i64 h1_3, L.lst 25 h1_4]))), L.lst 48 (encRs (Rx.set (foldX (decX [L.int IntKind.i64 h1_0, L.lst 48 h1_1, L.int IntKind.i64 h1_2, L.int IntKind.i64 h1_3, L.lst 25 h1_4])))), L.int IntKind.i64 (Rx.mn (foldX (decX [L.int IntKind.i64 h1_0, L.lst 48 h1_1, L.int IntKind.i64 h1_2, L.int IntKind.i64 h1_3, L.lst 25 h1_4]))), L.int IntKind.i64 (Rx.mx (foldX (decX [L.int IntKind.i64 h1_0, L.lst 48 h1_1, L.int IntKind.i64 h1_2, L.int IntKind.i64 h1_3, L.lst 25 h1_4]))), L.lst 25 (List.map encX (Rx.subs (foldX (decX [L.int IntKind.i64 h1_0, L.lst 48 h1_1, L.int IntKind.i64 h1_2, L.int IntKind.i64 h1_3, L.lst 25 h1_4]))))]) (decX [L.int IntKind.i64 h1_0, L.lst 48 h1_1, L.int IntKind.i64 h1_2, L.int IntKind.i64 h1_3, L.lst 25 h1_4]))
         (cond (a4 == c6)
          (cond (b5 == d7)
           (cond (isX [L.int IntKind.i64 h1_0, L.lst 48 h1_1, L.int IntKind.i64 h1_2, L.int IntKind.i64 h1_3, L.lst 25 h1_4] 1000000000000)
            (some [(.bool (rightS (decX [L.int IntKind.i64 h1_0, L.lst 48 h1_1, L.int IntKind.i64 h1_2, L.int IntKind.i64 h1_3, L.lst 25 h1_4]) == 0))])
            none)
           (some [(.bool (false))]))
          (some [(.bool (false))]))
         (some [(.bool (false))]))
        none)
       none)
      (some [(.bool (false))])))
    none)) := by kernel_rfl

/-! codesearch/codesearchlaw08.RegexBack -/
theorem LBack_e (G : Req → R) (re0_0 : Int) (re0_1 : List (List L)) (re0_2 : Int) (re0_3 : Int) (re0_4 : List (List L)) : runB (cfg [k_alive, k_small, k_Print, k_Parse, k_Right, (k_rSame 1000000000000)]) G (.enter 7 [(.agg [(.int IntKind.i64 (re0_0)), (.lst 48 re0_1), (.int IntKind.i64 (re0_2)), (.int IntKind.i64 (re0_3)), (.lst 25 re0_4)])] []) =
  (cond (isXa [L.int IntKind.i64 re0_0, L.lst 48 re0_1, L.int IntKind.i64 re0_2, L.int IntKind.i64 re0_3, L.lst 25 re0_4])
   (cond (!smallX (decX [L.int IntKind.i64 re0_0, L.lst 48 re0_1, L.int IntKind.i64 re0_2, L.int IntKind.i64 re0_3, L.lst 25 re0_4]))
    (some [(.bool (true))])
    (cond (isX [L.int IntKind.i64 re0_0, L.lst 48 re0_1, L.int IntKind.i64 re0_2, L.int IntKind.i64 re0_3, L.lst 25 re0_4] 1000000000000)
     (cond (Prod.snd (printP (decX [L.int IntKind.i64 re0_0, L.lst 48 re0_1, L.int IntKind.i64 re0_2, L.int IntKind.i64 re0_3, L.lst 25 re0_4])) != 0)
      (some [(.bool (bl (mk (Prod.fst (printP (decX [L.int IntKind.i64 re0_0, L.lst 48 re0_1, L.int IntKind.i64 re0_2, L.int IntKind.i64 re0_3, L.lst 25 re0_4])))) == bl (mk [])))])
      (cond (Nat.ble (ByteArray.size (mk (Prod.fst (printP (decX [L.int IntKind.i64 re0_0, L.lst 48 re0_1, L.int IntKind.i64 re0_2, L.int IntKind.i64 re0_3, L.lst 25 re0_4]))))) 9223372036854775807)
       (cond (Prod.snd (parseP (bl (mk (Prod.fst (printP (decX [L.int IntKind.i64 re0_0, L.lst 48 re0_1, L.int IntKind.i64 re0_2, L.int IntKind.i64 re0_3, L.lst 25 re0_4])))))) == 0)
        (cond (isX [L.int IntKind.i64 re0_0, L.lst 48 re0_1, L.int IntKind.i64 re0_2, L.int IntKind.i64 re0_3, L.lst 25 re0_4] 1000000000000)
         (cond (rightS (decX [L.int IntKind.i64 re0_0, L.lst 48 re0_1, L.int IntKind.i64 re0_2, L.int IntKind.i64 re0_3, L.lst 25 re0_4]) == 0)
          (cond (isX [L.int IntKind.i64 re0_0, L.lst 48 re0_1, L.int IntKind.i64 re0_2, L.int IntKind.i64 re0_3, L.lst 25 re0_4] 1000000000000 && isX [L.int IntKind.i64 (Rx.kind (Prod.fst (parseP (bl (mk (Prod.fst (printP (decX [L.int IntKind.i64 re0_0, L.lst 48 re0_1, L.int IntKind.i64 re0_2, L.int IntKind.i64 re0_3, L.lst 25 re0_4])))))))), L.lst 48 (encRs (Rx.set (Prod.fst (parseP (bl (mk (Prod.fst (printP (decX [L.int IntKind.i64 re0_0, L.lst 48 re0_1, L.int IntKind.i64 re0_2, L.int IntKind.i64 re0_3, L.lst 25 re0_4]))))))))), L.int IntKind.i64 (Rx.mn (Prod.fst (parseP (bl (mk (Prod.fst (printP (decX [L.int IntKind.i64 re0_0, L.lst 48 re0_1, L.int IntKind.i64 re0_2, L.int IntKind.i64 re0_3, L.lst 25 re0_4])))))))), L.int IntKind.i64 (Rx.mx (Prod.fst (parseP (bl (mk (Prod.fst (printP (decX [L.int IntKind.i64 re0_0, L.lst 48 re0_1, L.int IntKind.i64 re0_2, L.int IntKind.i64 re0_3, L.lst 25 re0_4])))))))), L.lst 25 (List.map encX (Rx.subs (Prod.fst (parseP (bl (mk (Prod.fst (printP (decX [L.int IntKind.i64 re0_0, L.lst 48 re0_1, L.int IntKind.i64 re0_2, L.int IntKind.i64 re0_3, L.lst 25 re0_4])))))))))] 1000000000000)
           (some [(.bool (sameX (decX [L.int IntKind.i64 re0_0, L.lst 48 re0_1, L.int IntKind.i64 re0_2, L.int IntKind.i64 re0_3, L.lst 25 re0_4]) (decX [L.int IntKind.i64 (Rx.kind (Prod.fst (parseP (bl (mk (Prod.fst (printP (decX [L.int IntKind.i64 re0_0, L.lst 48 re0_1, L.int IntKind.i64 re0_2, L.int IntKind.i64 re0_3, L.lst 25 re0_4])))))))), L.lst 48 (encRs (Rx.set (Prod.fst (parseP (bl (mk (Prod.fst (printP (decX [L.int IntKind.i64 re0_0, L.lst 48 re0_1, L.int IntKind.i64 re0_2, L.int IntKind.i64 re0_3, L.lst 25 re0_4]))))))))), L.int IntKind.i64 (Rx.mn (Prod.fst (parseP (bl (mk (Prod.fst (printP (decX [L.int IntKind.i64 re0_0, L.lst 48 re0_1, L.int IntKind.i64 re0_2, L.int IntKind.i64 re0_3, L.lst 25 re0_4])))))))), L.int IntKind.i64 (Rx.mx (Prod.fst (parseP (bl (mk (Prod.fst (printP (decX [L.int IntKind.i64 re0_0, L.lst 48 re0_1, L.int IntKind.i64 re0_2, L.int IntKind.i64 re0_3, L.lst 25 re0_4])))))))), L.lst 25 (List.map encX (Rx.subs (Prod.fst (parseP (bl (mk (Prod.fst (printP (decX [L.int IntKind.i64 re0_0, L.lst 48 re0_1, L.int IntKind.i64 re0_2, L.int IntKind.i64 re0_3, L.lst 25 re0_4])))))))))])))])
           none)
          (some [(.bool (false))]))
         none)
        (some [(.bool (false))]))
       none))
     none))
   none) := by kernel_rfl

/-! codesearch/codesearchlaw08.RegexAgain -/
noncomputable def LAgain_q8 (h0_0 : Int) (h0_1 : List (List L)) (h0_2 : Int) (h0_3 : Int) (h0_4 : List (List L)) : Req := .point 8 [] (todoAt Tryd.prog 8 8) ⟨[an, an, an, (.lf (.ptr 0 0)), an, an, an, an, an, an, an, an, an, an, an, an, an, an, an, an, an, an, an, an, an, an, an, an, an, an, an, an, an, an, an, an, an, an, an, an, an, an, an, an, an, an, an, an, an, an, an, an, an, an, an, an, an, an, an, an, an, an, an, an, an, an, an, an, an], [(.box [(.int IntKind.i64), (.sl 48), (.int IntKind.i64), (.int IntKind.i64), (.sl 25)] [(.int IntKind.i64 h0_0), (.lst 48 h0_1), (.int IntKind.i64 h0_2), (.int IntKind.i64 h0_3), (.lst 25 h0_4)])]⟩
noncomputable def LAgain_q10 (h0_0 : Int) (h0_1 : List (List L)) (h0_2 : Int) (h0_3 : Int) (h0_4 : List (List L)) : Req := .point 8 [] (todoAt Tryd.prog 8 10) ⟨[an, an, an, (.lf (.ptr 0 0)), an, an, an, an, an, an, an, an, an, an, an, an, an, an, an, an, an, an, an, an, an, an, an, an, an, an, an, an, an, an, an, an, an, an, an, an, an, an, an, an, an, an, an, an, an, an, an, an, an, an, an, an, an, an, an, an, an, an, an, an, an, an, an, an, an], [(.box [(.int IntKind.i64), (.sl 48), (.int IntKind.i64), (.int IntKind.i64), (.sl 25)] [(.int IntKind.i64 h0_0), (.lst 48 h0_1), (.int IntKind.i64 h0_2), (.int IntKind.i64 h0_3), (.lst 25 h0_4)])]⟩
noncomputable def LAgain_q13 (t5 : ByteArray) (h0_0 : Int) (h0_1 : List (List L)) (h0_2 : Int) (h0_3 : Int) (h0_4 : List (List L)) : Req := .point 8 [] (todoAt Tryd.prog 8 13) ⟨[an, an, an, (.lf (.ptr 0 0)), an, (.lf (.str t5)), an, an, an, an, an, an, an, an, an, an, an, an, an, an, an, an, an, an, an, an, an, an, an, an, an, an, an, an, an, an, an, an, an, an, an, an, an, an, an, an, an, an, an, an, an, an, an, an, an, an, an, an, an, an, an, an, an, an, an, an, an, an, an], [(.box [(.int IntKind.i64), (.sl 48), (.int IntKind.i64), (.int IntKind.i64), (.sl 25)] [(.int IntKind.i64 h0_0), (.lst 48 h0_1), (.int IntKind.i64 h0_2), (.int IntKind.i64 h0_3), (.lst 25 h0_4)])]⟩
noncomputable def LAgain_q14 (t5 : ByteArray) (g8 : Int) (h0_0 : Int) (h0_1 : List (List L)) (h0_2 : Int) (h0_3 : Int) (h0_4 : List (List L)) (h1_0 : Int) (h1_1 : List (List L)) (h1_2 : Int) (h1_3 : Int) (h1_4 : List (List L)) : Req := .point 8 [] (todoAt Tryd.prog 8 14) ⟨[an, an, an, (.lf (.ptr 0 0)), an, (.lf (.str t5)), an, (.lf (.ptr 1 0)), (.lf (.int IntKind.i64 g8)), an, an, an, an, an, an, an, an, an, an, an, an, an, an, an, an, an, an, an, an, an, an, an, an, an, an, an, an, an, an, an, an, an, an, an, an, an, an, an, an, an, an, an, an, an, an, an, an, an, an, an, an, an, an, an, an, an, an, an, an], [(.box [(.int IntKind.i64), (.sl 48), (.int IntKind.i64), (.int IntKind.i64), (.sl 25)] [(.int IntKind.i64 h0_0), (.lst 48 h0_1), (.int IntKind.i64 h0_2), (.int IntKind.i64 h0_3), (.lst 25 h0_4)]), (.box [(.int IntKind.i64), (.sl 48), (.int IntKind.i64), (.int IntKind.i64), (.sl 25)] [(.int IntKind.i64 h1_0), (.lst 48 h1_1), (.int IntKind.i64 h1_2), (.int IntKind.i64 h1_3), (.lst 25 h1_4)])]⟩
theorem LAgain_e (G : Req → R) (s0 : ByteArray) : runB (cfg [k_alive, k_Parse, (k_rSame 1000000000000), k_Right, k_Print]) G (.enter 8 [(.lf (.str (s0)))] []) =
  (cond (ltI 600 (↑(ByteArray.size s0) : Int))
   (some [(.bool (true))])
   (cond (Nat.ble (ByteArray.size s0) 9223372036854775807)
    (cond (Prod.snd (parseP (bl s0)) != 0)
     (cond (isX [L.int IntKind.i64 (Rx.kind (Prod.fst (parseP (bl s0)))), L.lst 48 (encRs (Rx.set (Prod.fst (parseP (bl s0))))), L.int IntKind.i64 (Rx.mn (Prod.fst (parseP (bl s0)))), L.int IntKind.i64 (Rx.mx (Prod.fst (parseP (bl s0)))), L.lst 25 (List.map encX (Rx.subs (Prod.fst (parseP (bl s0)))))] 1000000000000 && isX [L.int IntKind.i64 0, L.lst 48 [], L.int IntKind.i64 0, L.int IntKind.i64 0, L.lst 25 []] 1000000000000)
      (some [(.bool (sameX (decX [L.int IntKind.i64 (Rx.kind (Prod.fst (parseP (bl s0)))), L.lst 48 (encRs (Rx.set (Prod.fst (parseP (bl s0))))), L.int IntKind.i64 (Rx.mn (Prod.fst (parseP (bl s0)))), L.int IntKind.i64 (Rx.mx (Prod.fst (parseP (bl s0)))), L.lst 25 (List.map encX (Rx.subs (Prod.fst (parseP (bl s0)))))]) (decX [L.int IntKind.i64 0, L.lst 48 [], L.int IntKind.i64 0, L.int IntKind.i64 0, L.lst 25 []])))])
      none)
     (G (LAgain_q8 (Rx.kind (Prod.fst (parseP (bl s0)))) (encRs (Rx.set (Prod.fst (parseP (bl s0))))) (Rx.mn (Prod.fst (parseP (bl s0)))) (Rx.mx (Prod.fst (parseP (bl s0)))) (List.map encX (Rx.subs (Prod.fst (parseP (bl s0))))))))
    none)) := by kernel_rfl
theorem LAgain_p8 (G : Req → R) (h0_0 : Int) (h0_1 : List (List L)) (h0_2 : Int) (h0_3 : Int) (h0_4 : List (List L)) : runB (cfg [k_alive, k_Parse, (k_rSame 1000000000000), k_Right, k_Print]) G (LAgain_q8 h0_0 h0_1 h0_2 h0_3 h0_4) =
  (cond (isX [L.int IntKind.i64 h0_0, L.lst 48 h0_1, L.int IntKind.i64 h0_2, L.int IntKind.i64 h0_3, L.lst 25 h0_4] 1000000000000)
   (cond (rightS (decX [L.int IntKind.i64 h0_0, L.lst 48 h0_1, L.int IntKind.i64 h0_2, L.int IntKind.i64 h0_3, L.lst 25 h0_4]) != 0)
    (some [(.bool (false))])
    (G (LAgain_q10 h0_0 h0_1 h0_2 h0_3 h0_4)))
   none) := by kernel_rfl
theorem LAgain_p10 (G : Req → R) (h0_0 : Int) (h0_1 : List (List L)) (h0_2 : Int) (h0_3 : Int) (h0_4 : List (List L)) : runB (cfg [k_alive, k_Parse, (k_rSame 1000000000000), k_Right, k_Print]) G (LAgain_q10 h0_0 h0_1 h0_2 h0_3 h0_4) =
  (cond (isX [L.int IntKind.i64 h0_0, L.lst 48 h0_1, L.int IntKind.i64 h0_2, L.int IntKind.i64 h0_3, L.lst 25 h0_4] 1000000000000)
   (cond (Prod.snd (printP (decX [L.int IntKind.i64 h0_0, L.lst 48 h0_1, L.int IntKind.i64 h0_2, L.int IntKind.i64 h0_3, L.lst 25 h0_4])) != 0)
    (some [(.bool (Prod.snd (printP (decX [L.int IntKind.i64 h0_0, L.lst 48 h0_1, L.int IntKind.i64 h0_2, L.int IntKind.i64 h0_3, L.lst 25 h0_4])) == 3))])
    (G (LAgain_q13 (mk (Prod.fst (printP (decX [L.int IntKind.i64 h0_0, L.lst 48 h0_1, L.int IntKind.i64 h0_2, L.int IntKind.i64 h0_3, L.lst 25 h0_4])))) h0_0 h0_1 h0_2 h0_3 h0_4)))
   none) := by kernel_rfl
theorem LAgain_p13 (G : Req → R) (t5 : ByteArray) (h0_0 : Int) (h0_1 : List (List L)) (h0_2 : Int) (h0_3 : Int) (h0_4 : List (List L)) : runB (cfg [k_alive, k_Parse, (k_rSame 1000000000000), k_Right, k_Print]) G (LAgain_q13 t5 h0_0 h0_1 h0_2 h0_3 h0_4) =
  (cond (Nat.ble (ByteArray.size t5) 9223372036854775807)
   (G (LAgain_q14 t5 (Prod.snd (parseP (bl t5))) h0_0 h0_1 h0_2 h0_3 h0_4 (Rx.kind (Prod.fst (parseP (bl t5)))) (encRs (Rx.set (Prod.fst (parseP (bl t5))))) (Rx.mn (Prod.fst (parseP (bl t5)))) (Rx.mx (Prod.fst (parseP (bl t5)))) (List.map encX (Rx.subs (Prod.fst (parseP (bl t5)))))))
   none) := by kernel_rfl
theorem LAgain_p14 (G : Req → R) (t5 : ByteArray) (g8 : Int) (h0_0 : Int) (h0_1 : List (List L)) (h0_2 : Int) (h0_3 : Int) (h0_4 : List (List L)) (h1_0 : Int) (h1_1 : List (List L)) (h1_2 : Int) (h1_3 : Int) (h1_4 : List (List L)) : runB (cfg [k_alive, k_Parse, (k_rSame 1000000000000), k_Right, k_Print]) G (LAgain_q14 t5 g8 h0_0 h0_1 h0_2 h0_3 h0_4 h1_0 h1_1 h1_2 h1_3 h1_4) =
  (cond (isX [L.int IntKind.i64 h1_0, L.lst 48 h1_1, L.int IntKind.i64 h1_2, L.int IntKind.i64 h1_3, L.lst 25 h1_4] 1000000000000)
   (cond (g8 == 0)
    (cond (isX [L.int IntKind.i64 h0_0, L.lst 48 h0_1, L.int IntKind.i64 h0_2, L.int IntKind.i64 h0_3, L.lst 25 h0_4] 1000000000000 && isX [L.int IntKind.i64 h1_0, L.lst 48 h1_1, L.int IntKind.i64 h1_2, L.int IntKind.i64 h1_3, L.lst 25 h1_4] 1000000000000)
     (cond (sameX (decX [L.int IntKind.i64 h0_0, L.lst 48 h0_1, L.int IntKind.i64 h0_2, L.int IntKind.i64 h0_3, L.lst 25 h0_4]) (decX [L.int IntKind.i64 h1_0, L.lst 48 h1_1, L.int IntKind.i64 h1_2, L.int IntKind.i64 h1_3, L.lst 25 h1_4]))
      (cond (Prod.snd (printP (decX [L.int IntKind.i64 h1_0, L.lst 48 h1_1, L.int IntKind.i64 h1_2, L.int IntKind.i64 h1_3, L.lst 25 h1_4])) == 0)
       (cond (bl (mk (Prod.fst (printP (decX [L.int IntKind.i64 h1_0, L.lst 48 h1_1, L.int IntKind.i64 h1_2, L.int IntKind.i64 h1_3, L.lst 25 h1_4])))) == bl t5)
        (some [(.bool (leI (↑(ByteArray.size t5) : Int) 300))])
        (some [(.bool (false))]))
       (some [(.bool (false))]))
      (some [(.bool (false))]))
     none)
    (some [(.bool (false))]))
   none) := by kernel_rfl

end Go.Ab
namespace Go.Ab
open Go.Proofs

theorem isXa5 (x : Rx) : isXa [L.int .i64 x.kind, .lst 48 (encRs x.set), .int .i64 x.mn, .int .i64 x.mx, .lst 25 (x.subs.map encX)] = true := by rw [enc5]; exact isXa_enc x
theorem rightS_node {x : Rx} (h : rightS x = 0) : nodeS x = 0 := by
  unfold rightS at h
  cases hb : (nodeS x != 0) with
  | true => rw [hb] at h; simpa using h
  | false => rw [bne_false_int] at hb; exact hb
abbrev argX (x : Rx) : D := .agg [.int .i64 x.kind, .lst 48 (encRs x.set), .int .i64 x.mn, .int .i64 x.mx, .lst 25 (x.subs.map encX)]
theorem run_RegexChecks (x y : Rx) : Runs (cfg [k_alive, k_small, k_Right, k_rRight, k_Same 1000000000000, k_rSame 1000000000000]) (.enter 3 [argX x, argX y] []) [.bool true] := by
  refine Runs.by (LChecks_e · _ _ _ _ _ _ _ _ _ _) ?_
  simp only [dec5, isXa5, cond_true]
  cases h1 : smallX x with
  | false => exact .ret
  | true =>
    simp only [Bool.not_true, cond_false]
    cases h2 : smallX y with
    | false => exact .ret
    | true =>
      obtain ⟨a1, a2, a3⟩ := small_ok h1
      obtain ⟨b1, b2, b3⟩ := small_ok h2
      simp only [is5 a1 (ok_lev a1), is5 b1 (ok_lev b1), Bool.and_self, Bool.not_true, cond_false, cond_true, beq_self_eq_true, sameX_refl, dupN_eq, both_self]
      exact .ret
theorem run_RegexFolds (x : Rx) (c : Int) : Runs (cfg [k_alive, k_small, k_Has, k_rHas, k_rRight, k_Lens 1000000000000, k_rLens 1000000000000, k_Fold 1000000000000, k_rFold 1000000000000, k_rSame 1000000000000]) (.enter 6 [argX x, .lf (.int .u8 c)] []) [.bool true] := by
  refine Runs.by (LFolds_e · _ _ _ _ _ _) ?_
  simp only [dec5, isXa5, cond_true]
  cases h1 : smallX x with
  | false => exact .ret
  | true =>
    obtain ⟨a1, a2, a3⟩ := small_ok h1
    simp only [isRs_enc (ok_set a1), decRs_enc, Bool.not_true, cond_false, cond_true, dupN_eq]
    simp only [beq_self_eq_true, Bool.not_true, cond_false]
    refine .go ?_
    refine Runs.by (LFolds_p7 · _ _ _ _ _) ?_
    simp only [dec5, is5 a1 (ok_lev a1), cond_true]
    by_cases hr : rightS x = 0
    · have hn := rightS_node hr
      rw [ev_ne_f hr, right_beq hn]
      refine .go ?_
      refine Runs.by (LFolds_p11 · _ _ _ _ _ _ _ _ _) ?_
      have f1 := foldX_ok a1
      simp only [beq_self_eq_true, dec5, is5 a1 (ok_lev a1), is5 f1 (ok_lev f1), right_beq hn, cond_true, dupN_eq, Bool.and_self, sameX_refl]
      exact .ret
    · rw [ev_ne_t hr]; exact .ret
end Go.Ab
namespace Go.Ab
open Go.Proofs

/-! ### canonical ranges -/
theorem canR_ord (f : Nat → Bool) : ∀ n, n ≤ 256 → ∀ r ∈ canR f n, r.1.toNat ≤ r.2.toNat
  | 0, _, r, h => by rw [canR] at h; cases h
  | n + 1, hn, r, h => by
    have ih := canR_ord f n (by omega)
    rw [canR] at h
    split at h
    · rcases snoc_cases (canR f n) with e | ⟨m, q, e⟩
      · rw [e, stepR_nil] at h
        simp only [List.mem_singleton] at h
        subst h
        exact Nat.le_refl _
      · rw [e, stepR_snoc] at h
        have hq := ih q (by rw [e]; simp)
        have hl := canR_last f n (by omega) m q e
        split at h
        · rcases List.mem_append.1 h with h | h
          · exact ih r (by rw [e]; simp [h])
          · simp only [List.mem_singleton] at h
            subst h
            show q.1.toNat ≤ (UInt8.ofNat n).toNat
            rw [u8_nat (by omega)]; omega
        · rcases List.mem_append.1 h with h | h
          · exact ih r (by rw [e]; exact h)
          · simp only [List.mem_singleton] at h
            subst h
            exact Nat.le_refl _
    · exact ih r h
theorem hasI_pair (a b : UInt8) (j : Nat) : hasI [(a, b)] (j : Int) = (decide (a.toNat ≤ j) && decide (j ≤ b.toNat)) := by
  unfold hasI
  simp only [List.any_cons, List.any_nil, Bool.or_false]
  rw [leI_eq, leI_eq, Bool.eq_iff_iff]
  simp
theorem hasI_canR (f : Nat → Bool) : ∀ n, n ≤ 256 → ∀ j : Nat, hasI (canR f n) (j : Int) = (decide (j < n) && f j)
  | 0, _, j => by rw [canR]; simp [hasI]
  | n + 1, hn, j => by
    have ih := hasI_canR f n (by omega) j
    rw [canR]
    by_cases hf : f n = true
    · rw [if_pos hf]
      have key : (decide (j < n + 1) && f j) = ((decide (j < n) && f j) || decide (j = n)) := by
        by_cases e : j = n
        · subst e; simp [hf]
        · have : decide (j < n + 1) = decide (j < n) := by rw [decide_eq_decide]; omega
          rw [this, decide_eq_false e, Bool.or_false]
      rw [key, ← ih]
      rcases snoc_cases (canR f n) with e | ⟨m, q, e⟩
      · rw [e, stepR_nil, hasI_pair, u8_nat (by omega)]
        have : hasI [] (j : Int) = false := rfl
        rw [this, Bool.false_or, Bool.eq_iff_iff]
        simp; omega
      · have hq := canR_ord f n (by omega) q (by rw [e]; simp)
        have hl := canR_last f n (by omega) m q e
        rw [e, stepR_snoc]
        split
        · rename_i h1
          rw [hasI_app, hasI_app, hasI_pair, u8_nat (by omega)]
          have : hasI [q] (j : Int) = (decide (q.1.toNat ≤ j) && decide (j ≤ q.2.toNat)) := hasI_pair q.1 q.2 j
          rw [this]
          rw [Bool.or_assoc]
          congr 1
          rw [Bool.eq_iff_iff]
          simp; omega
        · rw [hasI_app, hasI_pair, u8_nat (by omega)]
          congr 1
          rw [Bool.eq_iff_iff]
          simp; omega
    · rw [if_neg hf, ih]
      have hf : f n = false := by simpa using hf
      by_cases e : j = n
      · subst e; simp [hf]
      · have : decide (j < n + 1) = decide (j < n) := by rw [decide_eq_decide]; omega
        rw [this]
theorem hasI_can {f : Nat → Bool} {j : Nat} (h : j < 256) : hasI (canR f 256) (j : Int) = f j := by rw [hasI_canR f 256 (Nat.le_refl _), decide_eq_true h, Bool.true_and]
theorem foldB_eq (f : Nat → Bool) (j : Nat) : foldB f j = (f j || f (swapB j)) := by
  unfold foldB swapB
  by_cases h1 : 97 ≤ j ∧ j ≤ 122
  · rw [if_pos h1, if_pos h1]
  · rw [if_neg h1, if_neg h1]
    by_cases h2 : 65 ≤ j ∧ j ≤ 90
    · rw [if_pos h2, if_pos h2]
    · rw [if_neg h2, if_neg h2, Bool.or_self]
theorem swapB_lt {j : Nat} (h : j < 256) : swapB j < 256 := by
  unfold swapB
  split
  · omega
  · split <;> omega
theorem swapB_swap (j : Nat) : swapB (swapB j) = j := by
  unfold swapB
  by_cases h1 : 97 ≤ j ∧ j ≤ 122
  · rw [if_pos h1, if_neg (by omega), if_pos (by omega)]; omega
  · rw [if_neg h1]
    by_cases h2 : 65 ≤ j ∧ j ≤ 90
    · rw [if_pos h2, if_pos (by omega)]; omega
    · rw [if_neg h2, if_neg h1, if_neg h2]
theorem foldRs_idem (s : List (UInt8 × UInt8)) : foldRs (foldRs s) = foldRs s := by
  unfold foldRs
  refine canR_congr fun j hj => ?_
  have h1 : ∀ i : Nat, i < 256 → hasI (canR (foldB fun j => hasI s (j : Nat)) 256) (i : Int) = foldB (fun j => hasI s (j : Nat)) i := fun i hi => hasI_can hi
  rw [foldB_eq, h1 j hj, h1 _ (swapB_lt hj), foldB_eq, foldB_eq, swapB_swap]
  cases hasI s (j : Int) <;> cases hasI s (swapB j : Nat) <;> rfl
theorem covSet_fold (s : List (UInt8 × UInt8)) : covSet s (foldRs s) = true := by
  unfold covSet
  rw [List.all_eq_true]
  intro j hj
  have hj : j < 256 := by simpa using hj
  unfold foldRs
  rw [hasI_can hj, foldB_eq, beq_self_eq_true]
theorem foldRs_pos {s : List (UInt8 × UInt8)} (h : 0 < s.length) (ho : ordP s) : 0 < (foldRs s).length := by
  have hr : s[0] ∈ s := List.getElem_mem h
  have hor := ho _ hr
  have hlt := (s[0]).1.toNat_lt
  have h1 : hasI s ((s[0].1.toNat : Nat) : Int) = true := by
    unfold hasI
    rw [List.any_eq_true]
    refine ⟨_, hr, ?_⟩
    rw [Bool.and_eq_true, leI_true', leI_true']
    omega
  have h2 := hasI_can (f := foldB fun j => hasI s (j : Nat)) hlt
  rw [foldB_eq, h1, Bool.true_or] at h2
  cases hc : foldRs s with
  | nil => unfold foldRs at hc; rw [hc] at h2; cases h2
  | cons a l => simp
theorem foldRs_ord (s : List (UInt8 × UInt8)) : ordP (foldRs s) := fun r hr => canR_ord _ 256 (Nat.le_refl _) r hr
/-! ### the fields -/
theorem foldX_kind (x : Rx) : (foldX x).kind = x.kind := by rw [foldX_eq]; rfl
theorem foldX_mn (x : Rx) : (foldX x).mn = x.mn := by rw [foldX_eq]; rfl
theorem foldX_mx (x : Rx) : (foldX x).mx = x.mx := by rw [foldX_eq]; rfl
theorem foldX_subs (x : Rx) : (foldX x).subs = x.subs.map foldX := by rw [foldX_eq]; rfl
theorem foldX_set (x : Rx) : (foldX x).set = cond (x.kind == 1) (foldRs x.set) x.set := by rw [foldX_eq]; rfl
theorem nodeSL_of : ∀ {l : List Rx}, (∀ y ∈ l, nodeS y = 0) → nodeSL l = 0
  | [], _ => by rw [nodeSL]
  | x :: l, h => by
    rw [nodeSL, h x List.mem_cons_self]
    exact nodeSL_of fun y hy => h y (List.mem_cons_of_mem _ hy)
theorem right_set {x : Rx} (h : fieldsP x) (hk : x.kind ≠ 1) : x.set = [] := by
  have := h.2.2.1
  exact List.eq_nil_of_length_eq_zero (by omega)
theorem foldX_right : ∀ (n : Nat) (x : Rx), x.lev ≤ n → nodeS x = 0 → nodeS (foldX x) = 0
  | 0, x, hl, _ => (no_lev hl).elim
  | n + 1, x, hl, h => by
    obtain ⟨hf, hc, hs⟩ := right_of h
    have hf' : fieldsP (foldX x) := by
      rw [fieldsP_iff]
      have hf2 := (fieldsP_iff x).1 hf
      have ho : ordP (foldX x).set := by
        rw [foldX_set]
        cases x.kind == 1 with
        | true => exact foldRs_ord _
        | false => exact hf2.2
      have hp : x.kind = 1 ↔ 0 < (foldX x).set.length := by
        rw [foldX_set]
        have h3 := hf2.1.2.2.1
        by_cases hk : x.kind = 1
        · rw [ev_eq_t hk]
          exact ⟨fun _ => foldRs_pos (h3.1 hk) hf2.2, fun _ => hk⟩
        · rw [ev_eq_f hk]; exact h3
      refine ⟨?_, ho⟩
      obtain ⟨q1, q2, q3, q4, q5, q6, q7⟩ := hf2.1
      unfold fieldsQ
      rw [foldX_kind, foldX_mn, foldX_mx, foldX_subs, List.length_map]
      exact ⟨q1, q2, hp, q4, q5, q6, q7⟩
    have hc' : ¬ cntP (foldX x) := by
      unfold cntP at hc ⊢
      rw [foldX_kind, foldX_mn, foldX_mx]; exact hc
    rw [nodeS_eq, if_neg (fun h => h hf'), if_neg hc', foldX_subs]
    refine nodeSL_of fun y hy => ?_
    obtain ⟨z, hz, rfl⟩ := List.mem_map.1 hy
    exact foldX_right n z (by have := lev_sub hz; omega) (hs z hz)
theorem foldX_idem : ∀ (n : Nat) (x : Rx), x.lev ≤ n → foldX (foldX x) = foldX x
  | 0, x, hl => (no_lev hl).elim
  | n + 1, x, hl => by
    rw [foldX_eq (foldX x), foldX_kind, foldX_mn, foldX_mx, foldX_subs, foldX_set, foldX_eq x, List.map_map]
    have e : x.subs.map (foldX ∘ foldX) = x.subs.map foldX := List.map_congr_left fun y hy => foldX_idem n y (by have := lev_sub hy; omega)
    rw [e]
    cases x.kind == 1 with
    | true => simp only [cond_true]; rw [foldRs_idem]
    | false => rfl
theorem lenL_map (k : Int) : ∀ (l : List Rx) (f : Bool) (a b : Int), (∀ y ∈ l, lenS (foldX y) = lenS y) → lenL k f a b (l.map foldX) = lenL k f a b l
  | [], f, a, b, _ => rfl
  | y :: l, f, a, b, h => by
    rw [List.map_cons, lenL, lenL, h y List.mem_cons_self]
    exact lenL_map k l _ _ _ fun z hz => h z (List.mem_cons_of_mem _ hz)
theorem foldX_len : ∀ (n : Nat) (x : Rx), x.lev ≤ n → lenS (foldX x) = lenS x
  | 0, x, hl => (no_lev hl).elim
  | n + 1, x, hl => by
    have ih : ∀ y ∈ x.subs, lenS (foldX y) = lenS y := fun y hy => foldX_len n y (by have := lev_sub hy; omega)
    rw [lenS_eq, lenS_eq x, foldX_kind, foldX_mn, foldX_mx, foldX_subs, lenL_map _ _ _ _ _ ih]
    have hR : lenR x.mn x.mx (x.subs.map foldX) = lenR x.mn x.mx x.subs := by
      cases hs : x.subs with
      | nil => rfl
      | cons y l => rw [List.map_cons, lenR, lenR, ih y (by rw [hs]; exact List.mem_cons_self)]
    rw [hR]
theorem coversL_map : ∀ (l : List Rx), (∀ y ∈ l, coversP y (foldX y) = true) → coversL l (l.map foldX) = true
  | [], _ => by rw [List.map_nil, coversL]
  | y :: l, h => by
    rw [List.map_cons, coversL, h y List.mem_cons_self, coversL_map l fun z hz => h z (List.mem_cons_of_mem _ hz)]; rfl
theorem covers_fold : ∀ (n : Nat) (x : Rx), x.lev ≤ n → nodeS x = 0 → coversP x (foldX x) = true
  | 0, x, hl, _ => (no_lev hl).elim
  | n + 1, x, hl, h => by
    obtain ⟨hf, hc, hs⟩ := right_of h
    rw [coversP_eq, foldX_kind, foldX_mn, foldX_mx, foldX_subs, List.length_map]
    have e1 : covSet x.set (foldX x).set = true := by
      rw [foldX_set]
      by_cases hk : x.kind = 1
      · rw [ev_eq_t hk]; exact covSet_fold _
      · rw [ev_eq_f hk, right_set hf hk]
        show covSet [] [] = true
        unfold covSet
        rw [List.all_eq_true]
        intro j _
        rfl
    have e2 := coversL_map x.subs fun y hy => covers_fold n y (by have := lev_sub hy; omega) (hs y hy)
    rw [e1, e2]
    simp
/-! ### covering holds -/
theorem swap_i (i : Nat) (h : i < 256) : ((swapB i : Nat) : Int) = if 97 ≤ i ∧ i ≤ 122 then wrapI .u8 (wrapI .u8 ((i : Int) - 97) + 65) else if 65 ≤ i ∧ i ≤ 90 then wrapI .u8 (wrapI .u8 ((i : Int) - 65) + 97) else (i : Int) := by
  unfold swapB
  by_cases h1 : 97 ≤ i ∧ i ≤ 122
  · rw [if_pos h1, if_pos h1, w8 (n := (i : Int) - 97) (by omega) (by omega), w8 (n := (i : Int) - 97 + 65) (by omega) (by omega)]; omega
  · rw [if_neg h1, if_neg h1]
    by_cases h2 : 65 ≤ i ∧ i ≤ 90
    · rw [if_pos h2, if_pos h2, w8 (n := (i : Int) - 65) (by omega) (by omega), w8 (n := (i : Int) - 65 + 97) (by omega) (by omega)]; omega
    · rw [if_neg h2, if_neg h2]
def covAt (a b : List (UInt8 × UInt8)) (j : Nat) : Bool := hasI b (j : Nat) == (hasI a (j : Nat) || hasI a (swapB j : Nat))
theorem covers_subs {m : Nat} {x y : Rx} (hx : x.ok) (hlx : x.lev ≤ m + 1) (hy : y.ok) (he : x.subs.length = y.subs.length) : ∀ k i : Nat, i + k = x.subs.length →
    Runs (cfg [k_covers m, k_Has]) (covers_q15 (i : Nat) x.kind (encRs x.set) x.mn x.mx (x.subs.map encX) y.kind (encRs y.set) y.mn y.mx (y.subs.map encX)) [.bool (coversL (x.subs.drop i) (y.subs.drop i))]
  | 0, i, h => by
    refine Runs.by (covers_p15 · _ _ _ _ _ _ _ _ _ _ _ _) ?_
    simp (disch := omega) only [List.length_map, ev_lt_f, cond_false]
    rw [drop_end (l := x.subs) (by omega), coversL]
    exact .ret
  | k + 1, i, h => by
    refine Runs.by (covers_p15 · _ _ _ _ _ _ _ _ _ _ _ _) ?_
    have hi : i < x.subs.length := by omega
    have hi2 : i < y.subs.length := by omega
    have hs := ok_subs hx
    have m1 := subs_in hx hlx _ (mem_getD hi)
    have m2 := ok_sub hy (mem_getD hi2)
    have m3 := ok_lev m2
    simp (disch := omega) only [List.length_map, ev_lt_t, cond_true]
    refine .go ?_
    refine Runs.by (covers_p17 · _ _ _ _ _ _ _ _ _ _ _ _) ?_
    simp (disch := omega) only [List.length_map, ev_lt_t, ev_le_t, cond_true, Bool.and_self, xs_at, el_enc, isX_enc m1.1 m1.2, isX_enc m2 m3, decX_enc, w64]
    rw [drop_at default hi, drop_at default hi2, coversL]
    cases coversP (x.subs.getD i default) (y.subs.getD i default) with
    | false => exact .ret
    | true => exact .go (covers_subs hx hlx hy he k (i + 1) (by omega))
theorem covers_bytes {m : Nat} {x y : Rx} (hx : x.ok) (hlx : x.lev ≤ m + 1) (hy : y.ok) (he : x.subs.length = y.subs.length) : ∀ k i : Nat, i + k = 256 →
    Runs (cfg [k_covers m, k_Has]) (covers_q4 (i : Nat) x.kind (encRs x.set) x.mn x.mx (x.subs.map encX) y.kind (encRs y.set) y.mn y.mx (y.subs.map encX)) [.bool (((List.range' i k).all fun j => covAt x.set y.set j) && coversL x.subs y.subs)]
  | 0, i, h => by
    refine Runs.by (covers_p4 · _ _ _ _ _ _ _ _ _ _ _ _) ?_
    have : i = 256 := by omega
    subst this
    rw [show ltI ((256 : Nat) : Int) 256 = false from by decide]
    refine .go ?_
    refine Runs.by (covers_p14 · _ _ _ _ _ _ _ _ _ _ _) (.go ?_)
    have := covers_subs hx hlx hy he x.subs.length 0 (by omega)
    simpa using this
  | k + 1, i, h => by
    refine Runs.by (covers_p4 · _ _ _ _ _ _ _ _ _ _ _ _) ?_
    have hi : i < 256 := by omega
    have hb : ∀ (d : Int), d = ((swapB i : Nat) : Int) → RunsF (cfg [k_covers m, k_Has]) (fun G => G (covers_q12 (i : Nat) (i : Nat) d x.kind (encRs x.set) x.mn x.mx (x.subs.map encX) y.kind (encRs y.set) y.mn y.mx (y.subs.map encX))) [.bool (((List.range' i (k + 1)).all fun j => covAt x.set y.set j) && coversL x.subs y.subs)] := fun d hd => by
      subst hd
      refine .go ?_
      refine Runs.by (covers_p12 · _ _ _ _ _ _ _ _ _ _ _ _ _ _) ?_
      have ih := covers_bytes hx hlx hy he k (i + 1) (by omega)
      rw [isRs_enc (ok_set hx), isRs_enc (ok_set hy), decRs_enc, decRs_enc, List.range'_succ, List.all_cons]
      simp (disch := omega) only [dupN_eq, cond_true, w64]
      unfold covAt at ih ⊢
      cases h1 : hasI x.set (i : Int) <;> cases h2 : hasI y.set (i : Int) <;> cases h3 : hasI x.set (swapB i : Nat) <;> first
        | exact .ret
        | exact .go (by simpa using ih)
    have hw : wrapI .u8 (i : Int) = (i : Int) := w8 (by omega) (by omega)
    have hsw := swap_i i hi
    rw [hw, ev_lt_t (by omega)]
    by_cases h1 : 97 ≤ i
    · rw [ev_le_t (a := 97) (b := (i : Int)) (by omega)]
      by_cases h2 : i ≤ 122
      · rw [ev_le_t (a := (i : Int)) (b := 122) (by omega)]
        rw [if_pos ⟨h1, h2⟩] at hsw
        exact hb _ hsw.symm
      · rw [if_neg (by omega), if_neg (by omega)] at hsw
        rw [ev_le_f (a := (i : Int)) (b := 122) (by omega), ev_le_t (a := 65) (b := (i : Int)) (by omega), ev_le_f (a := (i : Int)) (b := 90) (by omega)]
        exact hb _ hsw.symm
    · rw [ev_le_f (a := 97) (b := (i : Int)) (by omega)]
      by_cases h2 : 65 ≤ i
      · rw [ev_le_t (a := 65) (b := (i : Int)) (by omega)]
        by_cases h3 : i ≤ 90
        · rw [ev_le_t (a := (i : Int)) (b := 90) (by omega)]
          rw [if_neg (by omega), if_pos ⟨h2, h3⟩] at hsw
          exact hb _ hsw.symm
        · rw [ev_le_f (a := (i : Int)) (b := 90) (by omega)]
          rw [if_neg (by omega), if_neg (by omega)] at hsw
          exact hb _ hsw.symm
      · rw [ev_le_f (a := 65) (b := (i : Int)) (by omega)]
        rw [if_neg (by omega), if_neg (by omega)] at hsw
        exact hb _ hsw.symm
theorem covers_holds : ∀ n, Holds (k_covers n)
  | 0 => con_run (xs := []) hold0 fun aa hp r h => by
    split at h
    case h_2 => cases h
    obtain ⟨g, rfl⟩ := xo h
    rw [Bool.and_eq_true] at g
    obtain ⟨x, rfl, rfl, rfl, rfl, rfl, ho, hl⟩ := isX5 g.1
    exact (no_lev hl).elim
  | n + 1 => con_run (xs := [k_covers n, k_Has]) (hold1 (covers_holds n) (hold1 Has_holds hold0)) fun aa hp r h => by
    split at h
    case h_2 => cases h
    obtain ⟨g, rfl⟩ := xo h
    rw [Bool.and_eq_true] at g
    obtain ⟨x, rfl, rfl, rfl, rfl, rfl, ho, hl⟩ := isX5 g.1
    obtain ⟨y, rfl, rfl, rfl, rfl, rfl, ho2, hl2⟩ := isX5 g.2
    rw [dec5, dec5, coversP_eq]
    refine Runs.by (covers_e · _ _ _ _ _ _ _ _ _ _ _) ?_
    simp only [List.length_map]
    by_cases h1 : x.kind = y.kind
    · rw [ev_ne_f h1, ev_eq_t h1]
      by_cases h2 : x.mn = y.mn
      · rw [ev_ne_f h2, ev_eq_t h2]
        by_cases h3 : x.mx = y.mx
        · rw [ev_ne_f h3, ev_eq_t h3]
          by_cases h4 : x.subs.length = y.subs.length
          · rw [ev_ne_f (by omega), show Nat.beq x.subs.length y.subs.length = true from by rw [Nat.beq_eq]; exact h4]
            have := covers_bytes (m := n) ho hl ho2 h4 256 0 (by omega)
            refine .go ?_
            unfold covSet
            rw [List.range_eq_range']
            simpa [covAt] using this
          · rw [ev_ne_t (by omega), show Nat.beq x.subs.length y.subs.length = false from by rw [← Bool.not_eq_true, Nat.beq_eq]; exact h4]
            exact .ret
        · rw [ev_ne_t h3, ev_eq_f h3]; exact .ret
      · rw [ev_ne_t h2, ev_eq_f h2]; exact .ret
    · rw [ev_ne_t h1, ev_eq_f h1]; exact .ret
theorem run_RegexFolding (x : Rx) : Runs (cfg [k_alive, k_small, k_rRight, k_Fold 1000000000000, k_Lens 1000000000000, k_covers 1000000000000, k_rSame 1000000000000, k_Right]) (.enter 9 [argX x] []) [.bool true] := by
  refine Runs.by (LFolding_e · _ _ _ _ _) ?_
  simp only [dec5, isXa5, cond_true]
  cases h1 : smallX x with
  | false => exact .ret
  | true =>
    obtain ⟨a1, a2, a3⟩ := small_ok h1
    have f1 := foldX_ok a1
    have f2 := foldX_ok f1
    simp only [Bool.not_true, cond_false, is5 a1 (ok_lev a1), cond_true]
    by_cases hr : rightS x = 0
    · have hn := rightS_node hr
      have hn2 := foldX_right _ x (Nat.le_refl _) hn
      rw [ev_ne_f hr, right_beq hn]
      refine .go ?_
      refine Runs.by (LFolding_p7 · _ _ _ _ _ _ _ _ _ _ _ _) ?_
      rw [dec5, is5 f1 (ok_lev f1), right_beq hn2, foldX_len _ x (Nat.le_refl _)]
      refine .go ?_
      refine Runs.by (LFolding_p8 · _ _ _ _ _ _ _ _ _ _ _ _ _ _) ?_
      have hr2 : rightS (foldX x) = 0 := by
        unfold rightS at hr ⊢
        rw [hn2, foldX_nodes, foldX_lev]
        rw [hn] at hr
        exact hr
      simp only [dec5, is5 a1 (ok_lev a1), is5 f1 (ok_lev f1), is5 f2 (ok_lev f2), covers_fold _ x (Nat.le_refl _) hn, foldX_idem _ x (Nat.le_refl _), sameX_refl, beq_self_eq_true, hr2, cond_true, dupN_eq, both_self, Bool.and_self]
      exact .ret
    · rw [ev_ne_t hr]; exact .ret
end Go.Ab
namespace Go.Ab
open Go.Proofs

abbrev Rng := List (UInt8 × UInt8)
def pEsc (c : UInt8) : Option Rng :=
  if c = 110 then some [(10, 10)] else if c = 116 then some [(9, 9)] else if c = 100 then some [(48, 57)]
  else if c = 119 then some [(48, 57), (65, 90), (95, 95), (97, 122)] else if c = 45 ∨ c ∈ spcs then some [(c, c)] else none
def pEscL : List UInt8 → Option (Rng × List UInt8)
  | [] => none
  | d :: r' => (pEsc d).map fun l => (l, r')
def pOne : List UInt8 → Option (Rng × List UInt8)
  | [] => none
  | c :: r =>
    if c < 32 ∨ 126 < c then none
    else if c = 92 then pEscL r
    else if c ∈ insB then none else some ([(c, c)], r)
def isCls : List UInt8 → Bool
  | c :: d :: _ => decide (c = 92) && (decide (d = 100) || decide (d = 119))
  | _ => false
def loR (x : Rng) : UInt8 := (x.getD 0 (0, 0)).1
def pSetL : Nat → Rng → List UInt8 → Option (Rng × List UInt8)
  | 0, _, _ => none
  | n + 1, acc, l =>
    match l with
    | [] => none
    | c :: r =>
      if c = 93 then (if acc = [] then none else some (acc, r))
      else match pOne (c :: r) with
        | none => none
        | some (x, t) =>
          if isCls (c :: r) = false ∧ t.head? = some 45 then
            (if isCls t.tail = true then none
            else match pOne t.tail with
              | none => none
              | some (y, u) => if loR y < loR x then none else pSetL n (acc ++ [(loR x, loR y)]) u)
          else pSetL n (acc ++ x) t
def pSet (l : List UInt8) : Option (Rng × List UInt8) :=
  (pSetL (l.length + 1) [] (if l.head? = some 94 then l.tail else l)).map fun p => (canR (fun j => !(hasI p.1 (j : Nat) == decide (l.head? = some 94))) 256, p.2)
/-! ### escapes -/
theorem spcs_class : ∀ c ∈ spcs, classB c = 1 := by decide
theorem class_spcs {c : UInt8} (h : classB c = 1) : c ∈ spcs := by
  unfold classB at h
  split at h
  · cases h
  · split at h
    · assumption
    · cases h
theorem escOk_eq (c : UInt8) : escOk c = (pEsc c).isSome := by
  unfold escOk pEsc
  by_cases c1 : c = 110
  · simp [c1]
  · by_cases c2 : c = 116
    · simp [c2]
    · by_cases c3 : c = 100
      · simp [c3]
      · by_cases c4 : c = 119
        · simp [c4]
        · simp only [c1, c2, c3, c4, decide_false, Bool.false_or, if_false]
          by_cases c5 : c = 45
          · simp [c5]
          · by_cases c6 : c ∈ spcs
            · simp [c6, spcs_class c c6]
            · have : ¬ classB c = 1 := fun h => c6 (class_spcs h)
              simp [c5, c6, this]
theorem pEsc_F {c : UInt8} {l : Rng} (h : pEsc c = some l) (j : Nat) : hasI l (j : Int) = escF c j := by
  unfold pEsc at h
  by_cases c1 : c = 110
  · subst c1
    cases h
    rw [hasI_pair]
    show _ = decide (j = 10)
    rw [Bool.eq_iff_iff]; simp; omega
  · rw [if_neg c1] at h
    by_cases c2 : c = 116
    · subst c2
      cases h
      rw [hasI_pair]
      show _ = decide (j = 9)
      rw [Bool.eq_iff_iff]; simp; omega
    · rw [if_neg c2] at h
      by_cases c3 : c = 100
      · subst c3
        cases h
        rw [hasI_pair]
        show _ = decide (48 ≤ j ∧ j ≤ 57)
        rw [Bool.eq_iff_iff]; simp
      · rw [if_neg c3] at h
        by_cases c4 : c = 119
        · subst c4
          cases h
          show _ = decide ((48 ≤ j ∧ j ≤ 57) ∨ (97 ≤ j ∧ j ≤ 122) ∨ (65 ≤ j ∧ j ≤ 90) ∨ j = 95)
          rw [show ([(48, 57), (65, 90), (95, 95), (97, 122)] : Rng) = [(48, 57)] ++ ([(65, 90)] ++ ([(95, 95)] ++ [(97, 122)])) from rfl, hasI_app, hasI_app, hasI_app, hasI_pair, hasI_pair, hasI_pair, hasI_pair]
          rw [Bool.eq_iff_iff]; simp; omega
        · rw [if_neg c4] at h
          split at h
          · cases h
            unfold escF
            rw [if_neg c1, if_neg c2, if_neg c3, if_neg c4, hasI_pair, Bool.eq_iff_iff]
            simp; omega
          · cases h
theorem escW : canR (escF 119) 256 = [(48, 57), (65, 90), (95, 95), (97, 122)] := by kernel_rfl
theorem escD : canR (escF 100) 256 = [(48, 57)] := by kernel_rfl
theorem pEsc_can {c : UInt8} {l : Rng} (h : pEsc c = some l) : canR (escF c) 256 = l := by
  by_cases c3 : c = 100
  · subst c3; rw [escD]; unfold pEsc at h; simpa using h
  · by_cases c4 : c = 119
    · subst c4; rw [escW]; unfold pEsc at h; simpa using h
    · have ht := (escLo c).toNat_lt
      rw [escF_one c3 c4, canR_single _ ht 256 (Nat.le_refl _), if_pos ht, UInt8.ofNat_toNat]
      unfold pEsc at h
      unfold escLo
      by_cases c1 : c = 110
      · rw [if_pos c1] at h ⊢; exact Option.some.inj h
      · rw [if_neg c1] at h ⊢
        by_cases c2 : c = 116
        · rw [if_pos c2] at h ⊢; exact Option.some.inj h
        · rw [if_neg c2, if_neg c3, if_neg c4] at h
          rw [if_neg c2]
          split at h
          · exact Option.some.inj h
          · cases h
theorem pEsc_lo {c : UInt8} {l : Rng} (h : pEsc c = some l) (c3 : c ≠ 100) (c4 : c ≠ 119) : loR l = escLo c := by
  unfold pEsc at h
  unfold escLo
  by_cases c1 : c = 110
  · rw [if_pos c1] at h ⊢; cases h; rfl
  · rw [if_neg c1] at h ⊢
    by_cases c2 : c = 116
    · rw [if_pos c2] at h ⊢; cases h; rfl
    · rw [if_neg c2, if_neg c3, if_neg c4] at h
      rw [if_neg c2]
      split at h
      · cases h; rfl
      · cases h
/-! ### one element -/
theorem nextS_cons (c : UInt8) (r : List UInt8) : nextS (c :: r, false) = c := rfl
theorem nextS_nil : nextS ([], false) = 0 := rfl
theorem esc_zero : escOk 0 = false := by decide
theorem one_rel (l : List UInt8) : (pOne l = none → (elemR (l, false)).2 = true) ∧
    ∀ x t, pOne l = some (x, t) → elemR (l, false) = (t, false) ∧ elemV (l, false) = (if isCls l then (0, false) else (loR x, true)) ∧ ∀ j, elemB (l, false) j = hasI x (j : Nat) := by
  cases l with
  | nil =>
    refine ⟨fun _ => ?_, fun x t h => by cases h⟩
    rw [elemR_eq, takesS_nil]
    rw [if_neg (by decide), if_pos (.inr (.inr (takesS_nil _ _)))]
  | cons c r =>
    have hB0 : elemB (c :: r, false) = (elemS (c :: r, false) fun _ => false).2.2 := rfl
    have hV0 : elemV (c :: r, false) = (elemS (c :: r, false) fun _ => false).1 := rfl
    by_cases h92 : c = 92
    · subst h92
      have ht : takesS (92 :: r, false) 92 = true := by rw [takesS_cons]; rfl
      have htk : takeS (92 :: r, false) 92 = (r, false) := takeS_yes _ _
      rw [elemR_eq, if_pos ht, htk, hV0]
      have hp : pOne (92 :: r) = pEscL r := by
        rw [pOne, if_neg (by decide), if_pos rfl]
      rw [hp]
      cases r with
      | nil =>
        refine ⟨fun _ => ?_, fun x t h => by cases h⟩
        rw [nextS_nil, esc_zero]; rfl
      | cons d r' =>
        rw [nextS_cons, takesS_cons, takeS_yes, escOk_eq, pEscL]
        have hB : ∀ j, elemB (92 :: d :: r', false) j = (if (pEsc d).isSome = true then escF d j else false) := fun j => by
          rw [hB0]
          unfold elemS
          rw [if_pos ht, htk, nextS_cons, takesS_cons, takeS_yes, escOk_eq]
          simp only [decide_true, Bool.and_true]
          split
          · simp
          · rfl
        have hV : (elemS (92 :: d :: r', false) fun _ => false).1 = (if (pEsc d).isSome = true then (if d = 100 ∨ d = 119 then (0, false) else (escLo d, true)) else (0, false)) := by
          unfold elemS
          rw [if_pos ht, htk, nextS_cons, takesS_cons, takeS_yes, escOk_eq]
          simp only [decide_true, Bool.and_true]
          split <;> rfl
        rw [hV]
        simp only [hB, decide_true, Bool.and_true]
        cases he : pEsc d with
        | none => exact ⟨fun _ => rfl, fun x t h => by cases h⟩
        | some l0 =>
          refine ⟨fun h => (by cases h), fun x t h => ?_⟩
          simp only [Option.map_some, Option.some.injEq, Prod.mk.injEq] at h
          obtain ⟨rfl, rfl⟩ := h
          refine ⟨rfl, ?_, fun j => (pEsc_F he j).symm⟩
          simp only [Option.isSome_some, if_true]
          have hcls : isCls (92 :: d :: r') = (decide (d = 100) || decide (d = 119)) := by unfold isCls; simp
          rw [hcls]
          by_cases e : d = 100 ∨ d = 119
          · rw [if_pos e, if_pos (by simpa using e)]
          · rw [if_neg e, if_neg (by simpa using e), pEsc_lo he (fun h => e (.inl h)) (fun h => e (.inr h))]
    · have ht : ¬ takesS (c :: r, false) 92 = true := by rw [takesS_cons]; simpa using h92
      have htc : takesS (c :: r, false) c = true := by rw [takesS_cons]; simp
      have hcls : isCls (c :: r) = false := by
        cases r with
        | nil => rfl
        | cons d r => unfold isCls; simp [h92]
      have hins : c ∈ insB ↔ c ∈ ([91, 93, 94, 45] : List UInt8) := by unfold insB; simp [h92]
      rw [elemR_eq, if_neg ht, nextS_cons, htc, takeS_yes, hV0, hcls]
      have hB : ∀ j, elemB (c :: r, false) j = (if classB c = 2 ∨ c ∈ ([91, 93, 94, 45] : List UInt8) then false else decide (j = c.toNat)) := fun j => by
        rw [hB0]
        unfold elemS
        rw [if_neg ht, nextS_cons, htc]
        simp only [Bool.true_eq_false, or_false]
        split
        · rfl
        · simp
      have hV : (elemS (c :: r, false) fun _ => false).1 = (if classB c = 2 ∨ c ∈ ([91, 93, 94, 45] : List UInt8) then (0, false) else (c, true)) := by
        unfold elemS
        rw [if_neg ht, nextS_cons, htc]
        simp only [Bool.true_eq_false, or_false]
        split <;> rfl
      rw [hV]
      simp only [hB, Bool.true_eq_false, or_false]
      have hc2 : classB c = 2 ↔ (c < 32 ∨ 126 < c) := by
        unfold classB
        split
        · simp_all
        · split <;> simp_all
      rw [pOne, if_neg h92]
      by_cases h1 : c < 32 ∨ 126 < c
      · rw [if_pos h1, if_pos (.inl (hc2.2 h1))]
        exact ⟨fun _ => rfl, fun x t h => by cases h⟩
      · rw [if_neg h1]
        by_cases h2 : c ∈ insB
        · rw [if_pos h2, if_pos (.inr (hins.1 h2))]
          exact ⟨fun _ => rfl, fun x t h => by cases h⟩
        · have hn : ¬ (classB c = 2 ∨ c ∈ ([91, 93, 94, 45] : List UInt8)) := fun h => h.elim (fun h => h1 (hc2.1 h)) fun h => h2 (hins.2 h)
          rw [if_neg h2, if_neg hn]
          refine ⟨fun h => (by cases h), fun x t h => ?_⟩
          simp only [Option.some.injEq, Prod.mk.injEq] at h
          obtain ⟨rfl, rfl⟩ := h
          refine ⟨rfl, ?_, fun j => ?_⟩
          · rw [if_neg hn]; rfl
          · rw [if_neg hn, hasI_pair, Bool.eq_iff_iff]; simp; omega
end Go.Ab
namespace Go.Ab
open Go.Proofs

theorem pOne_len {l : List UInt8} {x : Rng} {t : List UInt8} (h : pOne l = some (x, t)) : t.length + 1 ≤ l.length ∧ x ≠ [] := by
  cases l with
  | nil => cases h
  | cons c r =>
    rw [pOne] at h
    split at h
    · cases h
    · split at h
      · cases r with
        | nil => cases h
        | cons d r' =>
          rw [pEscL] at h
          cases he : pEsc d with
          | none => rw [he] at h; cases h
          | some l0 =>
            rw [he] at h
            simp only [Option.map_some, Option.some.injEq, Prod.mk.injEq] at h
            obtain ⟨rfl, rfl⟩ := h
            refine ⟨by simp, fun e => ?_⟩
            subst e
            unfold pEsc at he
            repeat' split at he
            all_goals cases he
      · split at h
        · cases h
        · simp only [Option.some.injEq, Prod.mk.injEq] at h
          obtain ⟨rfl, rfl⟩ := h
          exact ⟨by simp, by simp⟩
theorem pOne_cls {l : List UInt8} {x : Rng} {t : List UInt8} (h : pOne l = some (x, t)) (hc : isCls l = false) : ∃ b, x = [(b, b)] := by
  cases l with
  | nil => cases h
  | cons c r =>
    rw [pOne] at h
    split at h
    · cases h
    · split at h
      · rename_i h92
        subst h92
        cases r with
        | nil => cases h
        | cons d r' =>
          have hd : ¬ (d = 100 ∨ d = 119) := by
            unfold isCls at hc
            simpa using hc
          rw [pEscL] at h
          cases he : pEsc d with
          | none => rw [he] at h; cases h
          | some l0 =>
            rw [he] at h
            simp only [Option.map_some, Option.some.injEq, Prod.mk.injEq] at h
            obtain ⟨rfl, rfl⟩ := h
            unfold pEsc at he
            split at he
            · cases he; exact ⟨10, rfl⟩
            · split at he
              · cases he; exact ⟨9, rfl⟩
              · rw [if_neg (fun e => hd (.inl e)), if_neg (fun e => hd (.inr e))] at he
                split at he
                · cases he; exact ⟨d, rfl⟩
                · cases he
      · split at h
        · cases h
        · simp only [Option.some.injEq, Prod.mk.injEq] at h
          obtain ⟨rfl, rfl⟩ := h
          exact ⟨c, rfl⟩
theorem setL_bad' (n : Nat) (first : Bool) (s : List UInt8) (f : Nat → Bool) : (setL n first (s, true) f).1 = (s, true) := setL_bad n first f rfl
theorem setL_mono : ∀ (n : Nat) (first : Bool) (s : RS) (f g : Nat → Bool), (∀ j, j < 256 → f j = g j) → (setL n first s f).1 = (setL n first s g).1 ∧ ∀ j, j < 256 → (setL n first s f).2 j = (setL n first s g).2 j
  | 0, first, s, f, g, h => ⟨rfl, h⟩
  | n + 1, first, s, f, g, h => by
    rw [setL, setL]
    simp only [elemS_eq]
    split
    · split
      · exact setL_mono n false _ _ _ fun j hj => by rw [h j hj]
      · exact setL_mono n false _ _ _ fun j hj => by rw [h j hj]
    · exact ⟨rfl, h⟩
theorem u8_le_nat {a b : UInt8} : (a < b) ↔ a.toNat < b.toNat := UInt8.lt_iff_toNat_lt
/-- The loop over a set's elements. -/
theorem setL_rel : ∀ (n : Nat) (first : Bool) (l : List UInt8) (acc : Rng) (f : Nat → Bool), l.length + 1 ≤ n → (∀ j, j < 256 → f j = hasI acc (j : Nat)) → (first = true ↔ acc = []) →
    (pSetL n acc l = none → (wantS (setL (n + 1) first (l, false) f).1 93).2 = true) ∧
    ∀ acc' r, pSetL n acc l = some (acc', r) → wantS (setL (n + 1) first (l, false) f).1 93 = (r, false) ∧ ∀ j, j < 256 → (setL (n + 1) first (l, false) f).2 j = hasI acc' (j : Nat)
  | 0, first, l, acc, f, hn, _, _ => by omega
  | n + 1, first, l, acc, f, hn, hf, hfa => by
    have hbad : ∀ (m : Nat) (b : Bool) (s : List UInt8) (g : Nat → Bool), (wantS (setL m b (s, true) g).1 93).2 = true := fun m b s g => by rw [setL_bad']; rfl
    cases l with
    | nil =>
      refine ⟨fun _ => ?_, fun acc' r h => by rw [pSetL] at h; cases h⟩
      rw [setL, nextS_nil]
      have h1 := (one_rel []).1 rfl
      simp only [elemS_eq]
      have e : (!(([] : List UInt8), false).2 && (first || (0 : UInt8) != 93)) = true := by cases first <;> rfl
      rw [if_pos e]
      have e2 : ((elemV ([], false)).2 && takesS (elemR ([], false)) 45) = false := by rw [takesS_of_bad h1, Bool.and_false]
      rw [if_neg (by rw [e2]; decide)]
      generalize elemR ([], false) = q at *
      obtain ⟨q1, q2⟩ := q
      have h1 : q2 = true := h1
      subst h1
      exact hbad _ _ _ _
    | cons c r =>
      rw [pSetL]
      by_cases hc : c = 93
      · subst hc
        rw [if_pos rfl]
        cases first with
        | true =>
          have ha := hfa.1 rfl
          rw [if_pos ha]
          refine ⟨fun _ => ?_, fun acc' r' h => by cases h⟩
          rw [setL]
          simp only [elemS_eq, Bool.true_or, Bool.not_false, Bool.and_self, if_true]
          have h1 := (one_rel (93 :: r)).1 (by rw [pOne, if_neg (by decide), if_neg (by decide), if_pos (by decide)])
          rw [if_neg (by rw [takesS_of_bad h1, Bool.and_false]; decide)]
          generalize elemR (93 :: r, false) = q at *
          obtain ⟨q1, q2⟩ := q
          have h1 : q2 = true := h1
          subst h1
          exact hbad _ _ _ _
        | false =>
          have ha : acc ≠ [] := fun e => by have := hfa.2 e; cases this
          rw [if_neg ha]
          refine ⟨fun h => (by cases h), fun acc' r' h => ?_⟩
          simp only [Option.some.injEq, Prod.mk.injEq] at h
          obtain ⟨rfl, rfl⟩ := h
          have e : setL (n + 1 + 1) false (93 :: r, false) f = ((93 :: r, false), f) := by rw [setL, nextS_cons]; rfl
          rw [e]
          refine ⟨?_, hf⟩
          unfold wantS
          rw [takesS_cons]; rfl
      · rw [if_neg hc]
        have hgo : (!((c :: r, false) : RS).2 && (first || nextS (c :: r, false) != 93)) = true := by
          rw [nextS_cons]
          have : (c != 93) = true := by simpa using hc
          rw [this, Bool.or_true]; rfl
        rw [setL, if_pos hgo]
        simp only [elemS_eq]
        obtain ⟨o1, o2⟩ := one_rel (c :: r)
        cases hp : pOne (c :: r) with
        | none =>
          have h1 := o1 hp
          simp only []
          rw [if_neg (by rw [takesS_of_bad h1, Bool.and_false]; decide)]
          refine ⟨fun _ => ?_, fun acc' r' h => by cases h⟩
          generalize elemR (c :: r, false) = q at *
          obtain ⟨q1, q2⟩ := q
          have h1 : q2 = true := h1
          subst h1
          exact hbad _ _ _ _
        | some p =>
          obtain ⟨x, t⟩ := p
          obtain ⟨e1, e2, e3⟩ := o2 x t hp
          obtain ⟨hlen, hxne⟩ := pOne_len hp
          simp only []
          rw [e1, e2]
          simp only [e3]
          have hlt : t.length + 1 ≤ r.length + 1 := by simpa using hlen
          have hn1 : t.length + 1 ≤ n := by simp at hn; omega
          -- the plain case
          have plain : ∀ b : Bool, b = true ∨ b = false → (pSetL n (acc ++ x) t = none → (wantS (setL (n + 1) false (t, false) fun j => f j || hasI x (j : Nat)).1 93).2 = true) ∧
              ∀ acc' r', pSetL n (acc ++ x) t = some (acc', r') → wantS (setL (n + 1) false (t, false) fun j => f j || hasI x (j : Nat)).1 93 = (r', false) ∧ ∀ j, j < 256 → (setL (n + 1) false (t, false) fun j => f j || hasI x (j : Nat)).2 j = hasI acc' (j : Nat) := fun b _ =>
            setL_rel n false t (acc ++ x) _ hn1 (fun j hj => by rw [hf j hj, hasI_app]) (by simp [hxne])
          cases hcl : isCls (c :: r) with
          | true =>
            rw [if_neg (by simp)]
            simp only [if_true, Bool.false_and, Bool.false_eq_true, if_false]
            exact plain true (.inl rfl)
          | false =>
            simp only [Bool.false_eq_true, if_false, Bool.true_and, true_and]
            cases ht45 : takesS (t, false) 45 with
            | false =>
              have hh : ¬ t.head? = some 45 := by
                intro e
                cases t with
                | nil => cases e
                | cons a t => rw [takesS_cons] at ht45; simp at e; subst e; simp at ht45
              rw [if_neg hh]
              simp only [Bool.false_eq_true, if_false]
              exact plain true (.inl rfl)
            | true =>
              obtain ⟨t2, ht2⟩ := takes_cases ht45
              cases ht2
              rw [if_pos (show (45 :: t2).head? = some (45 : UInt8) from rfl)]
              simp only [if_true, takeS_yes, List.tail_cons]
              obtain ⟨q1, q2⟩ := one_rel t2
              cases hp2 : pOne t2 with
              | none =>
                have h1 := q1 hp2
                have hend : ∀ g, (wantS (setL (n + 1) false (if (elemV (t2, false)).2 = false ∨ (elemV (t2, false)).1 < loR x then ((elemR (t2, false)).1, true) else elemR (t2, false)) g).1 93).2 = true := fun g => by
                  have : (if (elemV (t2, false)).2 = false ∨ (elemV (t2, false)).1 < loR x then ((elemR (t2, false)).1, true) else elemR (t2, false)) = ((elemR (t2, false)).1, true) := by
                    split
                    · rfl
                    · generalize elemR (t2, false) = q at *
                      obtain ⟨a, b⟩ := q
                      have h1 : b = true := h1
                      subst h1; rfl
                  rw [this]
                  exact hbad _ _ _ _
                refine ⟨fun _ => hend _, fun acc' r' h => ?_⟩
                have h' : (if isCls t2 = true then (none : Option (Rng × List UInt8)) else none) = some (acc', r') := h
                simp at h'
              | some p2 =>
                obtain ⟨y, u⟩ := p2
                obtain ⟨g1, g2, g3⟩ := q2 y u hp2
                obtain ⟨hlen2, hyne⟩ := pOne_len hp2
                rw [g1, g2]
                simp only [g3]
                by_cases hcl2 : isCls t2 = true
                · simp only [hcl2, if_true, true_or]
                  exact ⟨fun _ => hbad _ _ _ _, fun acc' r' h => by cases h⟩
                · have hcl2 : isCls t2 = false := by simpa using hcl2
                  simp only [hcl2, Bool.false_eq_true, if_false, Bool.true_eq_false, false_or]
                  by_cases hlo : loR y < loR x
                  · rw [if_pos hlo, if_pos hlo]
                    exact ⟨fun _ => hbad _ _ _ _, fun acc' r' h => by cases h⟩
                  · rw [if_neg hlo, if_neg hlo]
                    obtain ⟨bx, rfl⟩ := pOne_cls hp hcl
                    obtain ⟨by', rfl⟩ := pOne_cls hp2 hcl2
                    have hlo' : bx.toNat ≤ by'.toNat := by
                      have : ¬ by' < bx := hlo
                      rw [u8_le_nat] at this; omega
                    have hn2 : u.length + 1 ≤ n := by simp at hlen hlen2 hn1; omega
                    refine setL_rel n false u (acc ++ [(bx, by')]) _ hn2 (fun j hj => ?_) (by simp)
                    rw [hf j hj, hasI_app, hasI_pair, hasI_pair, hasI_pair]
                    show (_ || (decide (bx.toNat ≤ j) && decide (j ≤ by'.toNat))) = _
                    rw [Bool.eq_iff_iff]
                    simp only [Bool.or_eq_true, Bool.and_eq_true, decide_eq_true_eq]
                    constructor
                    · rintro (((h | h) | h) | h)
                      · exact .inl h
                      · right; omega
                      · right; omega
                      · exact .inr h
                    · rintro (h | h)
                      · exact .inl (.inl (.inl h))
                      · exact .inr h
theorem set_rel (l : List UInt8) : (pSet l = none → (setS (l, false)).2.2 = true) ∧ ∀ x r, pSet l = some (x, r) → setS (l, false) = (x, (r, false)) := by
  have h94 : takesS (l, false) 94 = decide (l.head? = some 94) := by
    cases l with
    | nil => rfl
    | cons c r => rw [takesS_cons]; simp
  have htk : takeS (l, false) 94 = ((if l.head? = some 94 then l.tail else l), false) := by
    unfold takeS
    rw [h94]
    by_cases h : l.head? = some 94
    · simp [h]
    · simp [h]
  have hlen : (if l.head? = some 94 then l.tail else l).length + 1 ≤ l.length + 1 := by
    split <;> simp
  obtain ⟨r1, r2⟩ := setL_rel (l.length + 1) true (if l.head? = some 94 then l.tail else l) [] (fun _ => false) hlen (fun j _ => rfl) (by simp)
  unfold pSet setS
  rw [htk, h94]
  have hl0 : ((l, false) : RS).1.length + 2 = l.length + 1 + 1 := rfl
  rw [hl0]
  cases hp : pSetL (l.length + 1) [] (if l.head? = some 94 then l.tail else l) with
  | none => exact ⟨fun _ => r1 hp, fun x r h => by cases h⟩
  | some p =>
    obtain ⟨acc, t⟩ := p
    obtain ⟨e1, e2⟩ := r2 acc t hp
    refine ⟨fun h => (by cases h), fun x r h => ?_⟩
    simp only [Option.map_some, Option.some.injEq, Prod.mk.injEq] at h
    obtain ⟨rfl, rfl⟩ := h
    rw [e1]
    refine Prod.ext ?_ rfl
    dsimp only
    refine canR_congr fun j hj => ?_
    rw [e2 j hj]
    by_cases h : l.head? = some 94
    · simp [h]
    · simp [h]
end Go.Ab
namespace Go.Ab
open Go.Proofs

def pNumL : Nat → Int → Nat → List UInt8 → Int × Nat × List UInt8
  | 0, n, d, l => (n, d, l)
  | k + 1, n, d, l =>
    match l with
    | [] => (n, d, [])
    | c :: r => if digB c = true then pNumL k (n * 10 + ((c.toNat : Int) - 48)) (d + 1) r else (n, d, c :: r)
def pNum (l : List UInt8) : Option (Int × List UInt8) :=
  if (pNumL 4 0 0 l).2.1 = 0 ∨ 3 < (pNumL 4 0 0 l).2.1 ∨ (l.head? = some 48 ∧ 1 < (pNumL 4 0 0 l).2.1) then none else some ((pNumL 4 0 0 l).1, (pNumL 4 0 0 l).2.2)
def pBr (x : Rx) (l : List UInt8) : Option (Rx × List UInt8) :=
  match pNum l with
  | none => none
  | some (m, t) =>
    match t with
    | [] => none
    | c :: u =>
      if c = 125 then some (repX m m x, u) else if c ≠ 44 then none
      else match u with
        | [] => none
        | d :: v =>
          if d = 125 then some (repX m (-1) x, v)
          else match pNum (d :: v) with
            | none => none
            | some (k, w) => if w.head? = some 125 then some (repX m k x, w.tail) else none
def pRep (x : Rx) (l : List UInt8) : Option (Rx × List UInt8) :=
  match l with
  | [] => some (x, [])
  | c :: r => if c = 42 then some (repX 0 (-1) x, r) else if c = 43 then some (repX 1 (-1) x, r) else if c = 63 then some (repX 0 1 x, r) else if c = 123 then pBr x r else some (x, c :: r)
def pAtom (alt : List UInt8 → Option (Rx × List UInt8)) (l : List UInt8) : Option (Rx × List UInt8) :=
  match l with
  | [] => none
  | c :: r =>
    if c = 40 then (match alt r with
      | none => none
      | some (x, t) => if t.head? = some 41 then some (x, t.tail) else none)
    else if c = 94 then some (leafX 5, r) else if c = 36 then some (leafX 6, r) else if c = 46 then some (setX dotR, r)
    else if c = 91 then (pSet r).map fun p => (setX p.1, p.2)
    else if c = 92 then (match r with
      | [] => none
      | d :: u => if d = 98 then some (leafX 7, u) else (pEsc d).map fun l => (setX l, u))
    else if classB c = 0 then some (setX [(c, c)], r) else none
def pItem (alt : List UInt8 → Option (Rx × List UInt8)) (l : List UInt8) : Option (Rx × List UInt8) := (pAtom alt l).bind fun p => pRep p.1 p.2
def pSeqL (alt : List UInt8 → Option (Rx × List UInt8)) : Nat → List Rx → List UInt8 → Option (List Rx × List UInt8)
  | 0, _, _ => none
  | n + 1, acc, l =>
    if l = [] ∨ l.head? = some 124 ∨ l.head? = some 41 then some (acc, l)
    else match pItem alt l with
      | none => none
      | some (x, t) => pSeqL alt n (acc ++ [x]) t
def pSeq (alt : List UInt8 → Option (Rx × List UInt8)) (l : List UInt8) : Option (Rx × List UInt8) := (pSeqL alt (l.length + 1) [] l).map fun p => (oneX 2 p.1, p.2)
def pAltL (alt : List UInt8 → Option (Rx × List UInt8)) : Nat → List Rx → List UInt8 → Option (List Rx × List UInt8)
  | 0, _, _ => none
  | n + 1, acc, l =>
    if l.head? = some 124 then (match pSeq alt l.tail with
      | none => none
      | some (x, t) => pAltL alt n (acc ++ [x]) t)
    else some (acc, l)
def pAlt : Nat → List UInt8 → Option (Rx × List UInt8)
  | 0, _ => none
  | n + 1, l => (pSeq (pAlt n) l).bind fun p => (pAltL (pAlt n) (l.length + 1) [p.1] p.2).map fun q => (oneX 3 q.1, q.2)

/-! ### numbers -/
theorem digB_0 : digB 0 = false := by decide
theorem numL_nil (k : Nat) (n d : Int) : numL k n d ([], false) = (n, d, ([], false)) := by
  cases k with
  | zero => rfl
  | succ k => rw [numL, nextS_nil, digB_0]; rfl
theorem numL_cons (k : Nat) (n d : Int) (c : UInt8) (r : List UInt8) : numL (k + 1) n d (c :: r, false) = if digB c = true then (if d = 3 ∨ (0 < d ∧ n = 0) then (n, d, (c :: r, false)) else numL k (10 * n + ((c.toNat : Int) - 48)) (d + 1) (r, false)) else (n, d, (c :: r, false)) := by
  rw [numL, nextS_cons, takeS_yes]
theorem dig_num {c : UInt8} (h : digB c = true) : 48 ≤ c.toNat ∧ c.toNat ≤ 57 := by
  unfold digB at h
  simp only [Bool.and_eq_true, decide_eq_true_eq, UInt8.le_iff_toNat_le] at h
  exact h
/-- A digit stands where the reader stops. -/
def DigAt (s : RS) : Prop := ∃ c r, s = (c :: r, false) ∧ digB c = true
theorem numL_go {k : Nat} {n d : Int} {c : UInt8} {r : List UInt8} (h : digB c = true) (h1 : ¬ (d = 3 ∨ (0 < d ∧ n = 0))) : numL (k + 1) n d (c :: r, false) = numL k (10 * n + ((c.toNat : Int) - 48)) (d + 1) (r, false) := by rw [numL_cons, if_pos h, if_neg h1]
theorem numL_full {k : Nat} {n d : Int} {c : UInt8} {r : List UInt8} (h : digB c = true) (h1 : d = 3 ∨ (0 < d ∧ n = 0)) : numL (k + 1) n d (c :: r, false) = (n, d, (c :: r, false)) := by rw [numL_cons, if_pos h, if_pos h1]
theorem numL_stop {k : Nat} {n d : Int} {c : UInt8} {r : List UInt8} (h : ¬ digB c = true) : numL (k + 1) n d (c :: r, false) = (n, d, (c :: r, false)) := by rw [numL_cons, if_neg h]
theorem pNumL_go {k : Nat} {n : Int} {d : Nat} {c : UInt8} {r : List UInt8} (h : digB c = true) : pNumL (k + 1) n d (c :: r) = pNumL k (n * 10 + ((c.toNat : Int) - 48)) (d + 1) r := by rw [pNumL, if_pos h]
theorem pNumL_stop {k : Nat} {n : Int} {d : Nat} {c : UInt8} {r : List UInt8} (h : ¬ digB c = true) : pNumL (k + 1) n d (c :: r) = (n, d, c :: r) := by rw [pNumL, if_neg h]
theorem pNumL_nil {k : Nat} {n : Int} {d : Nat} : pNumL k n d [] = (n, d, []) := by cases k <;> rfl
theorem pNumL_ge : ∀ (k : Nat) (n : Int) (d : Nat) (l : List UInt8), d ≤ (pNumL k n d l).2.1
  | 0, n, d, l => Nat.le_refl _
  | k + 1, n, d, [] => Nat.le_refl _
  | k + 1, n, d, c :: r => by
    by_cases h : digB c = true
    · rw [pNumL_go h]; exact Nat.le_trans (Nat.le_succ d) (pNumL_ge k _ _ r)
    · rw [pNumL_stop h]; exact Nat.le_refl _
def NumGoal (l : List UInt8) : Prop := (pNum l = none → (numS (l, false)).2.2 = true ∨ DigAt (numS (l, false)).2) ∧ ∀ n r, pNum l = some (n, r) → numS (l, false) = (n, (r, false))
theorem num_ok {l r : List UInt8} {n : Int} {d : Nat} (hp : pNumL 4 0 0 l = (n, d, r)) (hs : numL 4 0 0 (l, false) = (n, (d : Int), (r, false))) (h1 : 1 ≤ d) (h3 : d ≤ 3) (hz : l.head? = some 48 → d ≤ 1) : NumGoal l := by
  unfold NumGoal pNum numS
  rw [hp, hs]
  have hc : ¬ (d = 0 ∨ 3 < d ∨ (l.head? = some 48 ∧ 1 < d)) := by
    rintro (h | h | ⟨h, h'⟩)
    · omega
    · omega
    · have := hz h; omega
  rw [if_neg hc]
  refine ⟨fun h => (by cases h), fun n' r' h => ?_⟩
  simp only [Option.some.injEq, Prod.mk.injEq] at h
  obtain ⟨rfl, rfl⟩ := h
  have : decide ((d : Int) = 0) = false := by rw [decide_eq_false]; omega
  rw [this]; rfl
theorem num_dig {l r : List UInt8} {n : Int} {d : Int} {c : UInt8} (hp : 3 < (pNumL 4 0 0 l).2.1 ∨ (l.head? = some 48 ∧ 1 < (pNumL 4 0 0 l).2.1)) (hs : numL 4 0 0 (l, false) = (n, d, (c :: r, false))) (hd : 1 ≤ d) (hc : digB c = true) : NumGoal l := by
  unfold NumGoal pNum numS
  rw [if_pos (.inr hp), hs]
  refine ⟨fun _ => .inr ⟨c, r, ?_, hc⟩, fun n' r' h => by cases h⟩
  have : decide (d = 0) = false := by rw [decide_eq_false]; omega
  rw [this]; rfl
theorem num_rel (l : List UInt8) : NumGoal l := by
  cases l with
  | nil =>
    unfold NumGoal pNum numS
    rw [numL_nil, pNumL_nil]
    exact ⟨fun _ => .inl rfl, fun n r h => by simp at h⟩
  | cons a l =>
    by_cases da : digB a = true
    · have na := dig_num da
      have s1 : numL 4 0 0 (a :: l, false) = numL 3 ((a.toNat : Int) - 48) 1 (l, false) := by rw [numL_go da (by omega)]; simp
      have p1 : pNumL 4 0 0 (a :: l) = pNumL 3 ((a.toNat : Int) - 48) 1 l := by rw [pNumL_go da]; simp
      cases l with
      | nil => exact num_ok (p1.trans pNumL_nil) (s1.trans (numL_nil _ _ _)) (by omega) (by omega) (fun _ => by omega)
      | cons b l =>
        by_cases db : digB b = true
        · have nb := dig_num db
          by_cases ha : a = 48
          · subst ha
            refine num_dig (c := b) (r := l) (.inr ⟨rfl, ?_⟩) (s1.trans (numL_full db (.inr ⟨by omega, by decide⟩))) (by omega) db
            rw [p1, pNumL_go db]
            exact pNumL_ge _ _ _ _
          · have han : a.toNat ≠ 48 := fun e => ha (UInt8.toNat_inj.1 (by rw [e]; rfl))
            have hh : ¬ ((a :: b :: l).head? = some 48) := by simpa using ha
            have s2 := s1.trans (numL_go (k := 2) (n := (a.toNat : Int) - 48) (d := 1) (c := b) (r := l) db (by omega))
            have p2 := p1.trans (pNumL_go (k := 2) (n := (a.toNat : Int) - 48) (d := 1) (c := b) (r := l) db)
            rw [Int.mul_comm 10] at s2
            cases l with
            | nil => exact num_ok (p2.trans pNumL_nil) (s2.trans (numL_nil _ _ _)) (by omega) (by omega) (fun h => absurd h hh)
            | cons c l =>
              by_cases dc : digB c = true
              · have nc := dig_num dc
                have s3 := s2.trans (numL_go (k := 1) (d := 1 + 1) (c := c) (r := l) dc (by omega))
                have p3 := p2.trans (pNumL_go (k := 1) (d := 1 + 1) (c := c) (r := l) dc)
                rw [Int.mul_comm 10] at s3
                cases l with
                | nil => exact num_ok (p3.trans pNumL_nil) (s3.trans (numL_nil _ _ _)) (by omega) (by omega) (fun h => absurd h hh)
                | cons e l =>
                  by_cases de : digB e = true
                  · refine num_dig (c := e) (r := l) (.inl ?_) (s3.trans (numL_full (k := 0) de (.inl (by omega)))) (by omega) de
                    rw [p3, pNumL_go de]
                    exact pNumL_ge _ _ _ _
                  · exact num_ok (p3.trans (pNumL_stop de)) (s3.trans (numL_stop de)) (by omega) (by omega) (fun h => absurd h hh)
              · exact num_ok (p2.trans (pNumL_stop dc)) (s2.trans (numL_stop dc)) (by omega) (by omega) (fun h => absurd h hh)
        · exact num_ok (p1.trans (pNumL_stop db)) (s1.trans (numL_stop db)) (by omega) (by omega) (fun _ => by omega)
    · unfold NumGoal pNum numS
      rw [numL_stop da, pNumL_stop da]
      exact ⟨fun _ => .inl rfl, fun n r h => by simp at h⟩
theorem wantS_dig {s : RS} (h : s.2 = true ∨ DigAt s) {c : UInt8} (hc : c = 125 ∨ c = 44) : takesS s c = false ∧ (wantS s c).2 = true := by
  rcases h with h | ⟨d, r, rfl, hd⟩
  · exact ⟨takesS_of_bad h c, wantS_bad h c⟩
  · have hn := dig_num hd
    have : takesS (d :: r, false) c = false := by
      rw [takesS_cons, decide_eq_false]
      rintro rfl
      rcases hc with rfl | rfl <;> simp at hn
    exact ⟨this, by unfold wantS; rw [this]; rfl⟩
theorem wantS_head (t : List UInt8) (c : UInt8) : wantS (t, false) c = if t.head? = some c then (t.tail, false) else (t, true) := by
  unfold wantS
  cases t with
  | nil => rw [takesS_nil]; rfl
  | cons a t =>
    rw [takesS_cons]
    by_cases h : a = c
    · subst h; simp
    · simp [h]
theorem takesS_head (t : List UInt8) (c : UInt8) : takesS (t, false) c = decide (t.head? = some c) := by
  cases t with
  | nil => rw [takesS_nil]; simp
  | cons a t => rw [takesS_cons]; simp
theorem br_rel (x : Rx) (l : List UInt8) : (pBr x l = none → (brS x (l, false)).2.2 = true) ∧ ∀ y r, pBr x l = some (y, r) → brS x (l, false) = (y, (r, false)) := by
  obtain ⟨n1, n2⟩ := num_rel l
  unfold pBr brS
  cases hp : pNum l with
  | none =>
    have h := n1 hp
    obtain ⟨w1, w2⟩ := wantS_dig h (c := 44) (.inr rfl)
    obtain ⟨w3, w4⟩ := wantS_dig h (c := 125) (.inl rfl)
    rw [if_neg (by rw [w1]; decide)]
    exact ⟨fun _ => w4, fun y r h => by cases h⟩
  | some p =>
    obtain ⟨m, t⟩ := p
    have e := n2 m t hp
    rw [e]
    simp only [takesS_head]
    cases t with
    | nil =>
      simp only []
      exact ⟨fun _ => rfl, fun y r h => by cases h⟩
    | cons c u =>
      simp only []
      by_cases h1 : c = 125
      · subst h1
        rw [if_pos rfl, if_neg (by simp)]
        refine ⟨fun h => (by cases h), fun y r h => ?_⟩
        simp only [Option.some.injEq, Prod.mk.injEq] at h
        obtain ⟨rfl, rfl⟩ := h
        rw [wantS_head, if_pos (show (125 :: u).head? = some (125 : UInt8) from rfl)]; rfl
      · rw [if_neg h1]
        by_cases h2 : c = 44
        · subst h2
          rw [if_neg (by simp), if_pos (by simp), takeS_yes]
          cases u with
          | nil =>
            simp only []
            rw [nextS_nil, if_neg (by decide)]
            refine ⟨fun _ => ?_, fun y r h => by cases h⟩
            have : numS ([], false) = (0, ([], true)) := by decide
            rw [this]
            rfl
          | cons d v =>
            simp only []
            rw [nextS_cons]
            by_cases h3 : d = 125
            · subst h3
              rw [if_pos rfl, if_pos rfl]
              refine ⟨fun h => (by cases h), fun y r h => ?_⟩
              simp only [Option.some.injEq, Prod.mk.injEq] at h
              obtain ⟨rfl, rfl⟩ := h
              rw [wantS_head, if_pos (show (125 :: v).head? = some (125 : UInt8) from rfl)]; rfl
            · rw [if_neg h3, if_neg h3]
              obtain ⟨k1, k2⟩ := num_rel (d :: v)
              cases hp2 : pNum (d :: v) with
              | none =>
                obtain ⟨w3, w4⟩ := wantS_dig (k1 hp2) (c := 125) (.inl rfl)
                exact ⟨fun _ => w4, fun y r h => by cases h⟩
              | some q =>
                obtain ⟨k, w⟩ := q
                rw [k2 k w hp2]
                simp only [wantS_head]
                by_cases h4 : w.head? = some 125
                · rw [if_pos h4, if_pos h4]
                  refine ⟨fun h => (by cases h), fun y r h => ?_⟩
                  simp only [Option.some.injEq, Prod.mk.injEq] at h
                  obtain ⟨rfl, rfl⟩ := h
                  rfl
                · rw [if_neg h4, if_neg h4]
                  exact ⟨fun _ => rfl, fun y r h => by cases h⟩
        · rw [if_pos h2, if_neg (by simp [h2]), wantS_head, if_neg (by simp [h1])]
          exact ⟨fun _ => rfl, fun y r h => by cases h⟩
theorem rep_rel (x : Rx) (l : List UInt8) : (pRep x l = none → (repS x (l, false)).2.2 = true) ∧ ∀ y r, pRep x l = some (y, r) → repS x (l, false) = (y, (r, false)) := by
  unfold pRep repS
  simp only [takesS_head]
  cases l with
  | nil =>
    refine ⟨fun h => (by cases h), fun y r h => ?_⟩
    simp only [Option.some.injEq, Prod.mk.injEq] at h
    obtain ⟨rfl, rfl⟩ := h
    rfl
  | cons c r =>
    simp only [List.head?_cons, Option.some.injEq, decide_eq_true_eq]
    by_cases h1 : c = 42
    · subst h1
      rw [if_pos rfl, if_pos rfl, takeS_yes]
      exact ⟨fun h => (by cases h), fun y r h => by simp only [Option.some.injEq, Prod.mk.injEq] at h; obtain ⟨rfl, rfl⟩ := h; rfl⟩
    · rw [if_neg h1, if_neg h1]
      by_cases h2 : c = 43
      · subst h2
        rw [if_pos rfl, if_pos rfl, takeS_yes]
        exact ⟨fun h => (by cases h), fun y r h => by simp only [Option.some.injEq, Prod.mk.injEq] at h; obtain ⟨rfl, rfl⟩ := h; rfl⟩
      · rw [if_neg h2, if_neg h2]
        by_cases h3 : c = 63
        · subst h3
          rw [if_pos rfl, if_pos rfl, takeS_yes]
          exact ⟨fun h => (by cases h), fun y r h => by simp only [Option.some.injEq, Prod.mk.injEq] at h; obtain ⟨rfl, rfl⟩ := h; rfl⟩
        · rw [if_neg h3, if_neg h3]
          by_cases h4 : c = 123
          · subst h4
            rw [if_pos rfl, if_pos rfl, takeS_yes]
            exact br_rel x r
          · rw [if_neg h4, if_neg h4]
            exact ⟨fun h => (by cases h), fun y r h => by simp only [Option.some.injEq, Prod.mk.injEq] at h; obtain ⟨rfl, rfl⟩ := h; rfl⟩
/-! ### the rest -/
/-- A reader reads as the plain parser does, on shorter strings. -/
def RelN (N : Nat) (F : RS → Rx × RS) (p : List UInt8 → Option (Rx × List UInt8)) : Prop :=
  ∀ l : List UInt8, l.length < N → (p l = none → (F (l, false)).2.2 = true) ∧ ∀ x r, p l = some (x, r) → F (l, false) = (x, (r, false))
theorem atom_rel {N : Nat} {alt : RS → Rx × RS} {p : List UInt8 → Option (Rx × List UInt8)} (h : RelN N alt p) : RelN (N + 1) (atomS alt) (pAtom p) := fun l hl => by
  unfold atomS pAtom
  simp only [takesS_head]
  cases l with
  | nil =>
    refine ⟨fun _ => ?_, fun x r h => by cases h⟩
    rfl
  | cons c r =>
    have ok : ∀ {x : Rx} {r : List UInt8}, (some (x, r) = (none : Option (Rx × List UInt8)) → (x, ((r, false) : RS)).2.2 = true) ∧ ∀ y t, some (x, r) = some (y, t) → (x, ((r, false) : RS)) = (y, (t, false)) := fun {x r} =>
      ⟨fun h => (by cases h), fun y t h => by simp only [Option.some.injEq, Prod.mk.injEq] at h; obtain ⟨rfl, rfl⟩ := h; rfl⟩
    simp only [List.head?_cons, Option.some.injEq, decide_eq_true_eq]
    by_cases h40 : c = 40
    · subst h40
      rw [if_pos rfl, if_pos rfl, takeS_yes]
      obtain ⟨a1, a2⟩ := h r (by simp at hl; omega)
      cases hp : p r with
      | none =>
        refine ⟨fun _ => wantS_bad (a1 hp) _, fun x r h => by cases h⟩
      | some q =>
        obtain ⟨x, t⟩ := q
        rw [a2 x t hp]
        simp only [wantS_head]
        by_cases h41 : t.head? = some 41
        · rw [if_pos h41, if_pos h41]; exact ok
        · rw [if_neg h41, if_neg h41]
          exact ⟨fun _ => rfl, fun x r h => by cases h⟩
    · rw [if_neg h40, if_neg h40]
      by_cases h94 : c = 94
      · subst h94; rw [if_pos rfl, if_pos rfl, takeS_yes]; exact ok
      · rw [if_neg h94, if_neg h94]
        by_cases h36 : c = 36
        · subst h36; rw [if_pos rfl, if_pos rfl, takeS_yes]; exact ok
        · rw [if_neg h36, if_neg h36]
          by_cases h46 : c = 46
          · subst h46; rw [if_pos rfl, if_pos rfl, takeS_yes]; exact ok
          · rw [if_neg h46, if_neg h46]
            by_cases h91 : c = 91
            · subst h91
              rw [if_pos rfl, if_pos rfl, takeS_yes]
              obtain ⟨s1, s2⟩ := set_rel r
              cases hp : pSet r with
              | none => exact ⟨fun _ => s1 hp, fun x r h => by cases h⟩
              | some q =>
                obtain ⟨x, t⟩ := q
                rw [s2 x t hp]
                exact ok
            · rw [if_neg h91, if_neg h91]
              by_cases h92 : c = 92
              · subst h92
                rw [if_pos rfl, if_pos rfl, takeS_yes]
                cases r with
                | nil =>
                  refine ⟨fun _ => ?_, fun x r h => by cases h⟩
                  rfl
                | cons d u =>
                  simp only [List.head?_cons, Option.some.injEq, decide_eq_true_eq, nextS_cons]
                  by_cases h98 : d = 98
                  · subst h98; rw [if_pos rfl, if_pos (by rw [takesS_cons]; rfl), takeS_yes]; exact ok
                  · rw [if_neg h98, if_neg (by rw [takesS_cons]; simpa using h98)]
                    cases he : pEsc d with
                    | none =>
                      have hc : (escOk d && takesS (d :: u, false) d) = false := by rw [escOk_eq, he]; rfl
                      simp only [hc, Bool.false_eq_true, if_false]
                      exact ⟨fun _ => trivial, fun x r h => by cases h⟩
                    | some l0 =>
                      have hc : (escOk d && takesS (d :: u, false) d) = true := by rw [escOk_eq, he, takesS_cons]; simp
                      simp only [hc, if_true, pEsc_can he, takeS_yes]
                      exact ok
              · rw [if_neg h92, if_neg h92, nextS_cons, takeS_yes]
                by_cases hc : classB c = 0
                · rw [if_pos hc, if_pos ⟨hc, by simp⟩]; exact ok
                · rw [if_neg hc, if_neg (fun h => hc h.1)]
                  exact ⟨fun _ => rfl, fun x r h => by cases h⟩
theorem item_rel {N : Nat} {alt : RS → Rx × RS} {p : List UInt8 → Option (Rx × List UInt8)} (h : RelN N alt p) : RelN (N + 1) (itemS alt) (pItem p) := fun l hl => by
  obtain ⟨a1, a2⟩ := atom_rel h l hl
  unfold itemS pItem
  cases hp : pAtom p l with
  | none =>
    have hb := a1 hp
    refine ⟨fun _ => ?_, fun x r h => by cases h⟩
    rw [repS_bad _ hb]; exact hb
  | some q =>
    obtain ⟨x, t⟩ := q
    rw [a2 x t hp]
    exact rep_rel x t
theorem pItem_len {N : Nat} {alt : RS → Rx × RS} {p : List UInt8 → Option (Rx × List UInt8)} (ha : ∀ s, (alt s).2.1.length ≤ s.1.length) (h : RelN N alt p) {l : List UInt8} (hl : l.length < N + 1) {x : Rx} {t : List UInt8} (hp : pItem p l = some (x, t)) : t.length + 1 ≤ l.length := by
  have e := (item_rel h l hl).2 x t hp
  rcases itemS_prog ha (l, false) with hb | hb
  · rw [e] at hb; cases hb
  · rw [e] at hb; exact hb
theorem seqL_rel {N : Nat} {alt : RS → Rx × RS} {p : List UInt8 → Option (Rx × List UInt8)} (ha : ∀ s, (alt s).2.1.length ≤ s.1.length) (h : RelN N alt p) : ∀ (n : Nat) (acc : List Rx) (l : List UInt8), l.length < N + 1 → l.length + 1 ≤ n →
    (pSeqL p n acc l = none → (seqL alt (n + 1) acc (l, false)).2.2 = true) ∧ ∀ a r, pSeqL p n acc l = some (a, r) → seqL alt (n + 1) acc (l, false) = (a, (r, false))
  | 0, acc, l, _, hn => by omega
  | n + 1, acc, l, hl, hn => by
    rw [pSeqL, seqL]
    by_cases hg : l = [] ∨ l.head? = some 124 ∨ l.head? = some 41
    · have hs : seqGo (l, false) = false := by
        unfold seqGo
        cases l with
        | nil => rfl
        | cons c r =>
          rw [nextS_cons]
          simp at hg
          rcases hg with rfl | rfl <;> simp
      rw [if_pos hg, if_neg (by rw [hs]; decide)]
      exact ⟨fun h => (by cases h), fun a r h => by simp only [Option.some.injEq, Prod.mk.injEq] at h; obtain ⟨rfl, rfl⟩ := h; rfl⟩
    · have hs : seqGo (l, false) = true := by
        unfold seqGo
        cases l with
        | nil => exact absurd (.inl rfl) hg
        | cons c r =>
          rw [nextS_cons]
          simp at hg
          simp [hg]
      rw [if_neg hg, if_pos hs]
      obtain ⟨i1, i2⟩ := item_rel h l hl
      cases hp : pItem p l with
      | none =>
        have hb := i1 hp
        refine ⟨fun _ => ?_, fun a r h => by cases h⟩
        rw [seqL_bad _ _ _ hb]; exact hb
      | some q =>
        obtain ⟨x, t⟩ := q
        have hlen := pItem_len ha h hl hp
        rw [i2 x t hp]
        exact seqL_rel ha h n (acc ++ [x]) t (by omega) (by omega)
theorem seq_rel {N : Nat} {alt : RS → Rx × RS} {p : List UInt8 → Option (Rx × List UInt8)} (ha : ∀ s, (alt s).2.1.length ≤ s.1.length) (h : RelN N alt p) : RelN (N + 1) (seqS alt) (pSeq p) := fun l hl => by
  obtain ⟨s1, s2⟩ := seqL_rel ha h (l.length + 1) [] l hl (Nat.le_refl _)
  unfold seqS pSeq
  have e0 : ((l, false) : RS).1.length + 2 = l.length + 1 + 1 := rfl
  rw [e0]
  cases hp : pSeqL p (l.length + 1) [] l with
  | none => exact ⟨fun _ => s1 hp, fun x r h => by cases h⟩
  | some q =>
    obtain ⟨a, t⟩ := q
    rw [s2 a t hp]
    exact ⟨fun h => (by cases h), fun x r h => by simp only [Option.map_some, Option.some.injEq, Prod.mk.injEq] at h; obtain ⟨rfl, rfl⟩ := h; rfl⟩
theorem altL_rel {N : Nat} {alt : RS → Rx × RS} {p : List UInt8 → Option (Rx × List UInt8)} (ha : ∀ s, (alt s).2.1.length ≤ s.1.length) (h : RelN N alt p) : ∀ (n : Nat) (acc : List Rx) (l : List UInt8), l.length < N + 1 → l.length + 1 ≤ n →
    (pAltL p n acc l = none → (altL alt (n + 1) acc (l, false)).2.2 = true) ∧ ∀ a r, pAltL p n acc l = some (a, r) → altL alt (n + 1) acc (l, false) = (a, (r, false))
  | 0, acc, l, _, hn => by omega
  | n + 1, acc, l, hl, hn => by
    rw [pAltL, altL, takesS_head]
    by_cases hg : l.head? = some 124
    · cases l with
      | nil => cases hg
      | cons c r =>
        simp only [List.head?_cons, Option.some.injEq] at hg
        subst hg
        rw [if_pos (show (124 :: r).head? = some (124 : UInt8) from rfl), if_pos (by simp), takeS_yes]
        simp only [List.tail_cons]
        have hlr : r.length < N + 1 := by simp at hl; omega
        obtain ⟨s1, s2⟩ := seq_rel ha h r hlr
        cases hp : pSeq p r with
        | none =>
          have hb := s1 hp
          refine ⟨fun _ => ?_, fun a r h => by cases h⟩
          rw [altL_bad _ _ _ hb]; exact hb
        | some q =>
          obtain ⟨x, t⟩ := q
          have e := s2 x t hp
          have hlen := seqS_len ha (r, false)
          rw [e] at hlen ⊢
          have hlen : t.length ≤ r.length := hlen
          exact altL_rel ha h n (acc ++ [x]) t (by omega) (by simp at hn; omega)
    · rw [if_neg hg, if_neg (by simpa using hg)]
      exact ⟨fun h => (by cases h), fun a r h => by simp only [Option.some.injEq, Prod.mk.injEq] at h; obtain ⟨rfl, rfl⟩ := h; rfl⟩
theorem alt_rel : ∀ n, RelN n (altS n) (pAlt n)
  | 0 => fun l hl => by omega
  | n + 1 => fun l hl => by
    have ih := alt_rel n
    obtain ⟨s1, s2⟩ := seq_rel (altS_len n) ih l hl
    rw [altS, pAlt]
    have e0 : ((l, false) : RS).1.length + 2 = l.length + 1 + 1 := rfl
    rw [e0]
    cases hp : pSeq (pAlt n) l with
    | none =>
      have hb := s1 hp
      refine ⟨fun _ => ?_, fun x r h => by cases h⟩
      rw [altL_bad _ _ _ hb]; exact hb
    | some q =>
      obtain ⟨x, t⟩ := q
      have e := s2 x t hp
      have hlen := seqS_len (altS_len n) (l, false)
      rw [e] at hlen ⊢
      have hlen : t.length ≤ l.length := hlen
      obtain ⟨a1, a2⟩ := altL_rel (altS_len n) ih (l.length + 1) [x] t (by omega) (by omega)
      simp only [Option.bind_some]
      cases hq : pAltL (pAlt n) (l.length + 1) [x] t with
      | none => exact ⟨fun _ => a1 hq, fun x r h => by cases h⟩
      | some q2 =>
        obtain ⟨a, u⟩ := q2
        rw [a2 a u hq]
        exact ⟨fun h => (by cases h), fun x r h => by simp only [Option.map_some, Option.some.injEq, Prod.mk.injEq] at h; obtain ⟨rfl, rfl⟩ := h; rfl⟩
end Go.Ab
namespace Go.Ab
open Go.Proofs

/-! ### bytes and sets -/
theorem insB_esc : ∀ b ∈ insB, pEsc b = some [(b, b)] ∧ ¬ (b = 100 ∨ b = 119) := by decide
theorem spcs_esc : ∀ b ∈ spcs, pEsc b = some [(b, b)] ∧ b ≠ 98 := by decide
theorem vis_cases {b : UInt8} (h : visB b = true) (h1 : b ≠ 9) (h2 : b ≠ 10) : ¬ (b < 32 ∨ 126 < b) := by
  unfold visB at h
  simp only [h1, h2, decide_false, Bool.false_or, Bool.and_eq_true, decide_eq_true_eq, UInt8.le_iff_toNat_le] at h
  simp only [UInt8.lt_iff_toNat_lt]
  omega
theorem one_wr {b : UInt8} (h : visB b = true) (r : List UInt8) : pOne (wrB b insB ++ r) = some ([(b, b)], r) ∧ isCls (wrB b insB ++ r) = false ∧ ∃ c t, wrB b insB = c :: t ∧ c ≠ 45 ∧ c ≠ 93 ∧ c ≠ 94 := by
  unfold wrB
  by_cases h9 : b = 9
  · subst h9
    rw [if_pos rfl]
    refine ⟨?_, rfl, 92, [116], rfl, by decide, by decide, by decide⟩
    show pOne (92 :: 116 :: r) = _
    rw [pOne, if_neg (by decide), if_pos rfl, pEscL]; rfl
  · rw [if_neg h9]
    by_cases h10 : b = 10
    · subst h10
      rw [if_pos rfl]
      refine ⟨?_, rfl, 92, [110], rfl, by decide, by decide, by decide⟩
      show pOne (92 :: 110 :: r) = _
      rw [pOne, if_neg (by decide), if_pos rfl, pEscL]; rfl
    · rw [if_neg h10]
      have hv := vis_cases h h9 h10
      by_cases hi : b ∈ insB
      · rw [if_pos hi]
        obtain ⟨e1, e2⟩ := insB_esc b hi
        refine ⟨?_, ?_, 92, [b], rfl, by decide, by decide, by decide⟩
        · show pOne (92 :: b :: r) = _
          rw [pOne, if_neg (by decide), if_pos rfl, pEscL, e1]; rfl
        · show isCls (92 :: b :: r) = false
          unfold isCls
          simpa using e2
      · rw [if_neg hi]
        have h92 : b ≠ 92 := fun e => hi (by rw [e]; decide)
        refine ⟨?_, ?_, b, [], rfl, fun e => hi (by rw [e]; decide), fun e => hi (by rw [e]; decide), fun e => hi (by rw [e]; decide)⟩
        · show pOne (b :: r) = _
          rw [pOne, if_neg hv, if_neg h92, if_neg hi]
        · show isCls (b :: r) = false
          cases r with
          | nil => rfl
          | cons d r => unfold isCls; simp [h92]
def okR (r : UInt8 × UInt8) : Prop := visB r.1 = true ∧ visB r.2 = true ∧ r.1.toNat ≤ r.2.toNat
theorem more_head (l : Rng) (hl : ∀ r ∈ l, okR r) (rest : List UInt8) : ∃ c t, l.flatMap inR ++ 93 :: rest = c :: t ∧ c ≠ 45 ∧ c ≠ 94 := by
  cases l with
  | nil => exact ⟨93, rest, rfl, by decide, by decide⟩
  | cons r l =>
    obtain ⟨_, _, c, t, e, h1, h2, h3⟩ := one_wr (hl r List.mem_cons_self).1 []
    refine ⟨c, t ++ ((if r.1 < r.2 then 45 :: wrB r.2 insB else []) ++ (l.flatMap inR ++ 93 :: rest)), ?_, h1, h3⟩
    rw [List.flatMap_cons]
    unfold inR
    rw [e]; simp
theorem setL_rt (rest : List UInt8) : ∀ (l acc : Rng) (n : Nat), (∀ r ∈ l, okR r) → (acc ≠ [] ∨ l ≠ []) → (l.flatMap inR ++ 93 :: rest).length ≤ n → pSetL n acc (l.flatMap inR ++ 93 :: rest) = some (acc ++ l, rest)
  | [], acc, n, _, h, hn => by
    cases n with
    | zero => simp at hn
    | succ n =>
      have ha : acc ≠ [] := h.elim id fun h => absurd rfl h
      show pSetL (n + 1) acc (93 :: rest) = _
      rw [pSetL, if_pos rfl, if_neg ha, List.append_nil]
  | r :: l, acc, n, hr, h, hn => by
    cases n with
    | zero => simp at hn
    | succ n =>
      obtain ⟨v1, v2, v3⟩ := hr r List.mem_cons_self
      have hl : ∀ q ∈ l, okR q := fun q hq => hr q (List.mem_cons_of_mem _ hq)
      obtain ⟨mc, mt, me, m1, _⟩ := more_head l hl rest
      obtain ⟨p1, p2, c, t, e, c1, c2, c3⟩ := one_wr v1 ((if r.1 < r.2 then 45 :: wrB r.2 insB else []) ++ (l.flatMap inR ++ 93 :: rest))
      have et : (r :: l).flatMap inR ++ 93 :: rest = wrB r.1 insB ++ ((if r.1 < r.2 then 45 :: wrB r.2 insB else []) ++ (l.flatMap inR ++ 93 :: rest)) := by
        rw [List.flatMap_cons]; unfold inR; simp
      have ec : wrB r.1 insB ++ ((if r.1 < r.2 then 45 :: wrB r.2 insB else []) ++ (l.flatMap inR ++ 93 :: rest)) = c :: (t ++ ((if r.1 < r.2 then 45 :: wrB r.2 insB else []) ++ (l.flatMap inR ++ 93 :: rest))) := by rw [e]; rfl
      rw [et] at hn ⊢
      rw [ec] at p1 p2 hn ⊢
      rw [pSetL, if_neg c2, p1]
      simp only []
      have hlen : (l.flatMap inR ++ 93 :: rest).length ≤ n := by
        simp only [List.length_cons, List.length_append] at hn ⊢
        omega
      by_cases hlt : r.1 < r.2
      · obtain ⟨q1, q2, _⟩ := one_wr v2 (l.flatMap inR ++ 93 :: rest)
        have e3 : (if r.1 < r.2 then 45 :: wrB r.2 insB else []) ++ (l.flatMap inR ++ 93 :: rest) = 45 :: (wrB r.2 insB ++ (l.flatMap inR ++ 93 :: rest)) := by rw [if_pos hlt]; rfl
        rw [e3] at p2 ⊢
        rw [if_pos ⟨p2, rfl⟩, List.tail_cons, if_neg (by rw [q2]; decide), q1]
        simp only []
        have hlo : ¬ (loR [(r.2, r.2)] < loR [(r.1, r.1)]) := by
          show ¬ (r.2 < r.1)
          rw [UInt8.lt_iff_toNat_lt]; omega
        rw [if_neg hlo]
        show pSetL n (acc ++ [(r.1, r.2)]) _ = _
        rw [setL_rt rest l _ n hl (.inl (by simp)) hlen]
        simp
      · have e3 : (if r.1 < r.2 then 45 :: wrB r.2 insB else []) ++ (l.flatMap inR ++ 93 :: rest) = l.flatMap inR ++ 93 :: rest := by rw [if_neg hlt]; rfl
        rw [e3]
        have heq : r.1 = r.2 := by
          rw [UInt8.lt_iff_toNat_lt] at hlt
          exact UInt8.toNat_inj.1 (by omega)
        have hno : ¬ (isCls (c :: (t ++ ((if r.1 < r.2 then 45 :: wrB r.2 insB else []) ++ (l.flatMap inR ++ 93 :: rest)))) = false ∧ (l.flatMap inR ++ 93 :: rest).head? = some 45) := by
          rintro ⟨_, h⟩
          rw [me] at h
          simp at h
          exact m1 h
        rw [e3] at hno
        rw [if_neg hno, setL_rt rest l _ n hl (.inl (by simp)) hlen]
        have : r = (r.1, r.1) := by rw [Prod.ext_iff]; exact ⟨rfl, heq.symm⟩
        have e5 : [((r.1, r.1) : UInt8 × UInt8)] = [r] := by rw [← this]
        rw [List.append_assoc, e5]
        rfl
theorem canR_id {l : Rng} (h : canR (fun j => hasI l (j : Nat)) 256 = l) : canR (fun j => !(hasI l (j : Nat) == false)) 256 = l := by
  conv => rhs; rw [← h]
  exact canR_congr fun j _ => by cases hasI l (j : Int) <;> rfl
theorem pSet_rt {l : Rng} (hne : l ≠ []) (hl : ∀ r ∈ l, okR r) (h : canR (fun j => hasI l (j : Nat)) 256 = l) (rest : List UInt8) : pSet (l.flatMap inR ++ 93 :: rest) = some (l, rest) := by
  obtain ⟨c, t, e, _, h94⟩ := more_head l hl rest
  have hh : ¬ ((l.flatMap inR ++ 93 :: rest).head? = some 94) := by rw [e]; simpa using h94
  unfold pSet
  rw [if_neg hh, decide_eq_false hh, setL_rt rest l [] _ hl (.inr hne) (by omega)]
  show some (canR (fun j => !(hasI l (j : Nat) == false)) 256, rest) = _
  rw [canR_id h]
theorem pSet_not {l m : Rng} (hne : m ≠ []) (hl : ∀ r ∈ m, okR r) (hm : m = canR (fun j => !(hasI l (j : Nat))) 256) (h : canR (fun j => hasI l (j : Nat)) 256 = l) (rest : List UInt8) : pSet (94 :: (m.flatMap inR ++ 93 :: rest)) = some (l, rest) := by
  have hh : (94 :: (m.flatMap inR ++ 93 :: rest)).head? = some 94 := rfl
  unfold pSet
  rw [if_pos hh, decide_eq_true hh, List.tail_cons, setL_rt rest m [] _ hl (.inr hne) (by simp; omega)]
  show some (canR (fun j => !(hasI m (j : Nat) == true)) 256, rest) = _
  have : canR (fun j => !(hasI m (j : Nat) == true)) 256 = l := by
    conv => rhs; rw [← h]
    refine canR_congr fun j hj => ?_
    rw [hm, hasI_can hj]
    cases hasI l (j : Int) <;> rfl
  rw [this]
theorem pAtom_cons (alt : List UInt8 → Option (Rx × List UInt8)) (c : UInt8) (r : List UInt8) : pAtom alt (c :: r) =
    (if c = 40 then (match alt r with
      | none => none
      | some (x, t) => if t.head? = some 41 then some (x, t.tail) else none)
    else if c = 94 then some (leafX 5, r) else if c = 36 then some (leafX 6, r) else if c = 46 then some (setX dotR, r)
    else if c = 91 then (pSet r).map fun p => (setX p.1, p.2)
    else if c = 92 then (match r with
      | [] => none
      | d :: u => if d = 98 then some (leafX 7, u) else (pEsc d).map fun l => (setX l, u))
    else if classB c = 0 then some (setX [(c, c)], r) else none) := rfl
theorem pAtom_91 (alt : List UInt8 → Option (Rx × List UInt8)) (r : List UInt8) : pAtom alt (91 :: r) = (pSet r).map fun p => (setX p.1, p.2) := by
  rw [pAtom_cons]
  rw [if_neg (by decide), if_neg (by decide), if_neg (by decide), if_neg (by decide), if_pos rfl]
theorem pAtom_92 (alt : List UInt8 → Option (Rx × List UInt8)) (d : UInt8) (u : List UInt8) (h : d ≠ 98) : pAtom alt (92 :: d :: u) = (pEsc d).map fun l => (setX l, u) := by
  rw [pAtom_cons]
  rw [if_neg (by decide), if_neg (by decide), if_neg (by decide), if_neg (by decide), if_neg (by decide), if_pos rfl]
  show (if d = 98 then some (leafX 7, u) else (pEsc d).map fun l => (setX l, u)) = _
  rw [if_neg h]
/-- A text begins as an item does. -/
def startT (t : List UInt8) : Prop := ∃ c u, t = c :: u ∧ c ≠ 42 ∧ c ≠ 43 ∧ c ≠ 63 ∧ c ≠ 123 ∧ c ≠ 124 ∧ c ≠ 41
theorem start_92 (u : List UInt8) : startT (92 :: u) := ⟨92, u, rfl, by decide, by decide, by decide, by decide, by decide, by decide⟩
theorem start_91 (u : List UInt8) : startT (91 :: u) := ⟨91, u, rfl, by decide, by decide, by decide, by decide, by decide, by decide⟩
theorem start_46 (u : List UInt8) : startT (46 :: u) := ⟨46, u, rfl, by decide, by decide, by decide, by decide, by decide, by decide⟩
theorem start_40 (u : List UInt8) : startT (40 :: u) := ⟨40, u, rfl, by decide, by decide, by decide, by decide, by decide, by decide⟩
theorem atom_wr (alt : List UInt8 → Option (Rx × List UInt8)) {b : UInt8} (h : visB b = true) (r : List UInt8) : pAtom alt (wrB b spcs ++ r) = some (setX [(b, b)], r) ∧ startT (wrB b spcs) := by
  unfold wrB
  by_cases h9 : b = 9
  · subst h9
    rw [if_pos rfl]
    exact ⟨by show pAtom alt (92 :: 116 :: r) = _; rw [pAtom_92 _ _ _ (by decide)]; rfl, start_92 _⟩
  · rw [if_neg h9]
    by_cases h10 : b = 10
    · subst h10
      rw [if_pos rfl]
      exact ⟨by show pAtom alt (92 :: 110 :: r) = _; rw [pAtom_92 _ _ _ (by decide)]; rfl, start_92 _⟩
    · rw [if_neg h10]
      have hv := vis_cases h h9 h10
      by_cases hi : b ∈ spcs
      · rw [if_pos hi]
        obtain ⟨e1, e2⟩ := spcs_esc b hi
        exact ⟨by show pAtom alt (92 :: b :: r) = _; rw [pAtom_92 _ _ _ e2, e1]; rfl, start_92 _⟩
      · rw [if_neg hi]
        have hc : classB b = 0 := by unfold classB; rw [if_neg hv, if_neg hi]
        have hn : ∀ c, c ∈ spcs → b ≠ c := fun c hc e => hi (e ▸ hc)
        refine ⟨?_, b, [], rfl, hn 42 (by decide), hn 43 (by decide), hn 63 (by decide), hn 123 (by decide), hn 124 (by decide), hn 41 (by decide)⟩
        show pAtom alt (b :: r) = _
        rw [pAtom_cons]
        rw [if_neg (hn 40 (by decide)), if_neg (hn 94 (by decide)), if_neg (hn 36 (by decide)), if_neg (hn 46 (by decide)), if_neg (hn 91 (by decide)), if_neg (hn 92 (by decide)), if_pos hc]
theorem insL_ok {l : Rng} (h : (insL l).2 = true) : (insL l).1 = l.flatMap inR ∧ l ≠ [] ∧ ∀ r ∈ l, visB r.1 = true ∧ visB r.2 = true := by
  unfold insL at h ⊢
  split at h
  · rename_i ha
    rw [if_pos ha]
    refine ⟨rfl, fun e => by subst e; simp at h, fun r hr => ?_⟩
    have := List.all_eq_true.1 ha r hr
    simpa using this
  · cases h
theorem set_rt (alt : List UInt8 → Option (Rx × List UInt8)) {l : Rng} (hne : l ≠ []) (h : (setP l).2 = true) (rest : List UInt8) : pAtom alt ((setP l).1 ++ rest) = some (setX l, rest) ∧ startT (setP l).1 := by
  unfold setP at h ⊢
  by_cases hc : canR (fun j => hasI l (j : Nat)) 256 ≠ l
  · rw [if_pos hc] at h; cases h
  · rw [if_neg hc] at h ⊢
    have hc := Decidable.of_not_not hc
    have hord : ∀ r ∈ l, r.1.toNat ≤ r.2.toNat := fun r hr => canR_ord _ 256 (Nat.le_refl _) r (by rw [hc]; exact hr)
    by_cases h1 : l.length = 1 ∧ (l.getD 0 (0, 0)).1 = (l.getD 0 (0, 0)).2 ∧ visB (l.getD 0 (0, 0)).1 = true
    · rw [if_pos h1]
      obtain ⟨k1, k2, k3⟩ := h1
      match l, k1 with
      | [(a, b)], _ =>
        have k2 : a = b := k2
        subst k2
        exact atom_wr alt k3 rest
    · rw [if_neg h1] at h ⊢
      by_cases h2 : canR (fun j => !(hasI l (j : Nat))) 256 = [(10, 10)]
      · rw [if_pos h2]
        refine ⟨?_, start_46 _⟩
        show pAtom alt (46 :: rest) = _
        rw [pAtom_cons]
        rw [if_neg (by decide), if_neg (by decide), if_neg (by decide), if_pos rfl]
        have : dotR = l := by
          unfold dotR
          conv => rhs; rw [← hc]
          refine canR_congr fun j hj => ?_
          rw [← h2, hasI_can hj]
          cases hasI l (j : Int) <;> rfl
        rw [this]
      · rw [if_neg h2] at h ⊢
        by_cases h3 : (insL l).2 = true
        · rw [if_pos h3]
          obtain ⟨e1, e2, e3⟩ := insL_ok h3
          rw [e1]
          refine ⟨?_, start_91 _⟩
          have e : [91] ++ l.flatMap inR ++ [93] ++ rest = 91 :: (l.flatMap inR ++ 93 :: rest) := by simp
          show pAtom alt ([91] ++ l.flatMap inR ++ [93] ++ rest) = _
          rw [e, pAtom_91, pSet_rt hne (fun r hr => ⟨(e3 r hr).1, (e3 r hr).2, hord r hr⟩) hc rest]; rfl
        · rw [if_neg h3] at h ⊢
          have h : (insL (canR (fun j => !(hasI l (j : Nat))) 256)).2 = true := h
          obtain ⟨e1, e2, e3⟩ := insL_ok h
          refine ⟨?_, start_91 _⟩
          show pAtom alt ([91, 94] ++ (insL (canR (fun j => !(hasI l (j : Nat))) 256)).1 ++ [93] ++ rest) = _
          rw [e1]
          generalize hm : canR (fun j => !(hasI l (j : Nat))) 256 = m at *
          have e : [91, 94] ++ m.flatMap inR ++ [93] ++ rest = 91 :: 94 :: (m.flatMap inR ++ 93 :: rest) := by simp
          rw [e, pAtom_91, pSet_not e2 (fun r hr => ⟨(e3 r hr).1, (e3 r hr).2, canR_ord _ 256 (Nat.le_refl _) r (by rw [hm]; exact hr)⟩) hm.symm hc rest]; rfl
/-! ### repetitions -/
theorem decN_one {n : Int} (h0 : 0 ≤ n) (h9 : n ≤ 9) : ∃ d : UInt8, decN n = [d] ∧ digB d = true ∧ (d.toNat : Int) - 48 = n ∧ d ≠ 125 := by
  have ht : (UInt8.ofNat (48 + n.toNat)).toNat = 48 + n.toNat := u8_nat (by omega)
  refine ⟨UInt8.ofNat (48 + n.toNat), ?_, ?_, ?_, ?_⟩
  · unfold decN; rw [if_pos (by omega)]
  · unfold digB
    rw [Bool.and_eq_true, decide_eq_true_eq, decide_eq_true_eq, UInt8.le_iff_toNat_le, UInt8.le_iff_toNat_le, ht]
    show (48 : Nat) ≤ _ ∧ _ ≤ (57 : Nat)
    omega
  · rw [ht]; omega
  · intro e
    rw [e] at ht
    have : (125 : UInt8).toNat = 125 := rfl
    omega
theorem pNum_one {n : Int} (h0 : 0 ≤ n) (h9 : n ≤ 9) {c : UInt8} (r : List UInt8) (hc : ¬ digB c = true) : pNum (decN n ++ c :: r) = some (n, c :: r) := by
  obtain ⟨d, e, hd, hn, _⟩ := decN_one h0 h9
  rw [e]
  show pNum (d :: c :: r) = _
  unfold pNum
  have hp : pNumL 4 0 0 (d :: c :: r) = (n, 1, c :: r) := by
    rw [pNumL_go hd, pNumL_stop hc]
    simp [hn]
  rw [hp, if_neg (by simp)]
theorem sufP_rt (x : Rx) {mn mx : Int} (h : 0 ≤ mn ∧ mn ≤ 8 ∧ (mx = -1 ∨ (1 ≤ mx ∧ mx ≤ 8))) (rest : List UInt8) : pRep x (sufP mn mx ++ rest) = some (repX mn mx x, rest) := by
  obtain ⟨h1, h2, h3⟩ := h
  have hbr : ∀ l, pRep x (123 :: l) = pBr x l := fun l => by
    rw [pRep]
    rw [if_neg (by decide), if_neg (by decide), if_neg (by decide), if_pos rfl]
  unfold sufP
  by_cases c1 : mn = 0 ∧ mx = -1
  · obtain ⟨rfl, rfl⟩ := c1
    show pRep x (42 :: rest) = _
    rw [pRep, if_pos rfl]
  · have e1 : (mn == 0 && mx == -1) = false := by rw [← Bool.not_eq_true]; simpa using c1
    rw [e1, cond_false]
    by_cases c2 : mn = 1 ∧ mx = -1
    · obtain ⟨rfl, rfl⟩ := c2
      show pRep x (43 :: rest) = _
      rw [pRep, if_neg (by decide), if_pos rfl]
    · have e2 : (mn == 1 && mx == -1) = false := by rw [← Bool.not_eq_true]; simpa using c2
      rw [e2, cond_false]
      by_cases c3 : mn = 0 ∧ mx = 1
      · obtain ⟨rfl, rfl⟩ := c3
        show pRep x (63 :: rest) = _
        rw [pRep, if_neg (by decide), if_neg (by decide), if_pos rfl]
      · have e3 : (mn == 0 && mx == 1) = false := by rw [← Bool.not_eq_true]; simpa using c3
        rw [e3, cond_false]
        by_cases c4 : mn = mx
        · subst c4
          rw [ev_eq_t rfl, cond_true]
          have e : [123] ++ decN mn ++ [125] ++ rest = 123 :: (decN mn ++ 125 :: rest) := by simp
          rw [e, hbr]
          unfold pBr
          rw [pNum_one h1 (by omega) rest (by decide)]
          simp
        · rw [ev_eq_f c4, cond_false]
          by_cases c5 : mx = -1
          · subst c5
            rw [ev_eq_t rfl, cond_true]
            have e : [123] ++ decN mn ++ [44, 125] ++ rest = 123 :: (decN mn ++ 44 :: 125 :: rest) := by simp
            rw [e, hbr]
            unfold pBr
            rw [pNum_one h1 (by omega) (125 :: rest) (by decide)]
            simp
          · rw [ev_eq_f c5, cond_false]
            have h3 : 1 ≤ mx ∧ mx ≤ 8 := by omega
            have e : [123] ++ decN mn ++ [44] ++ decN mx ++ [125] ++ rest = 123 :: (decN mn ++ 44 :: (decN mx ++ 125 :: rest)) := by simp
            rw [e, hbr]
            unfold pBr
            rw [pNum_one h1 (by omega) _ (by decide)]
            have hn := pNum_one (n := mx) (by omega) (by omega) (c := 125) rest (by decide)
            obtain ⟨d, ed, _, _, hd⟩ := decN_one (n := mx) (by omega) (by omega)
            rw [ed] at hn ⊢
            have hn : pNum (d :: 125 :: rest) = some (mx, 125 :: rest) := hn
            simp [hd, hn]
end Go.Ab
