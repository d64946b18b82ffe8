/- The numbers of the functions, the named points, the contracts' frame. -/
import Derived.Test.YtdjkmojappakgaaDoorPartAb2
import Derived.Test.YtdjkmojappakgaaDoorProg
import Derived.KernelRfl
import Derived.Lib.Bytealg
import Derived.Lib.IndexAny
import Derived.Lib.Small
import Derived.Shelf.Small.Utf8
import Derived.Shelf.Small.Strs
import Derived.Shelf.Strings.Search1
import Derived.Shelf.Strings.Search2
import Derived.Shelf.Strings.Search3
import Derived.Shelf.Strings.Count
import Derived.Shelf.LaysM
import Derived.Shelf.Strings.Shaped
import Derived.Shelf.Strings.Runes
import Derived.Shelf.Strings.IndexAny
import Derived.Shelf.Strings.AsciiSet
import Derived.Shelf.Strings.IndexAnyAll
import Derived.Shelf.Unicode.DecodeSlow
namespace Go.Ab
open Go.Proofs
abbrev n_main_main : Nat := 0
abbrev n_gosem_cut : Nat := 1
abbrev n_gosem_cut_init : Nat := 2
abbrev n_codesearchlaw02_GlobChecks : Nat := 3
abbrev n_codesearchlaw02_GlobMatches : Nat := 4
abbrev n_codesearchlaw02_GlobPrefix : Nat := 5
abbrev n_codesearchlaw02_GlobJoins : Nat := 6
abbrev n_codesearchlaw02_GlobAll : Nat := 7
abbrev n_codesearchlaw02_GlobPaths : Nat := 8
abbrev n_codesearchlaw02_GlobParts : Nat := 9
abbrev n_codesearchlaw02_alive : Nat := 10
abbrev n_codesearchlaw02_short : Nat := 11
abbrev n_glob_Right : Nat := 12
abbrev n_codesearchref02_Right : Nat := 13
abbrev n_glob_Prefix : Nat := 14
abbrev n_codesearchref02_Prefix : Nat := 15
abbrev n_glob_Match : Nat := 16
abbrev n_codesearchref02_Match : Nat := 17
abbrev n_codesearchlaw02_slash : Nat := 18
abbrev n_glob_ValidPath : Nat := 19
abbrev n_codesearchref02_ValidPath : Nat := 20
abbrev n_glob_Base : Nat := 21
abbrev n_codesearchref02_Base : Nat := 22
abbrev n_glob_Dir : Nat := 23
abbrev n_codesearchref02_Dir : Nat := 24
abbrev n_glob_Ext : Nat := 25
abbrev n_codesearchref02_Ext : Nat := 26
abbrev n_glob_Under : Nat := 27
abbrev n_codesearchref02_Under : Nat := 28
abbrev n_glob_parse : Nat := 29
abbrev n_codesearchref02_elems : Nat := 30
abbrev n_strings_IndexAny : Nat := 31
abbrev n_glob_element_stands : Nat := 32
abbrev n_codesearchref02_step : Nat := 33
abbrev n_strings_Split : Nat := 34
abbrev n_glob_letter : Nat := 35
abbrev n_codesearchref02_name : Nat := 36
abbrev n_strings_LastIndexByte : Nat := 37
abbrev n_codesearchref02_last : Nat := 38
abbrev n_strings_HasPrefix : Nat := 39
abbrev n_strings_IndexByte : Nat := 40
abbrev n_glob_set : Nat := 41
abbrev n_glob_printable : Nat := 42
abbrev n_codesearchref02_set : Nat := 43
abbrev n_strings_IndexRune : Nat := 44
abbrev n_strings_shouldUseASCIISet : Nat := 45
abbrev n_strings_makeASCIISet : Nat := 46
abbrev n_strings_asciiSet_contains : Nat := 47
abbrev n_codesearchref02_one : Nat := 48
abbrev n_strings_genSplit : Nat := 49
abbrev n_codesearchref02_Letter : Nat := 50
abbrev n_codesearchref02_Digit : Nat := 51
abbrev n_internal_bytealg_LastIndexByteString : Nat := 52
abbrev n_internal_stringslite_HasPrefix : Nat := 53
abbrev n_internal_stringslite_IndexByte : Nat := 54
abbrev n_unicode_utf8_ValidRune : Nat := 55
abbrev n_internal_bytealg_Cutover : Nat := 56
abbrev n_internal_bytealg_IndexString : Nat := 57
abbrev n_strings_explode : Nat := 58
abbrev n_strings_Count : Nat := 59
abbrev n_strings_Index : Nat := 60
abbrev n_internal_bytealg_IndexByteString : Nat := 61
abbrev n_unicode_utf8_RuneCountInString : Nat := 62
abbrev n_unicode_utf8_DecodeRuneInString : Nat := 63
abbrev n_internal_bytealg_CountString : Nat := 64
abbrev n_internal_stringslite_Index : Nat := 65
abbrev n_unicode_utf8_decodeRuneInStringSlow : Nat := 66
abbrev n_internal_bytealg_IndexRabinKarp : Nat := 67
abbrev n_internal_bytealg_hashStr : Nat := 68
abbrev n_runtime_boundsError_Error : Nat := 69
abbrev n_runtime_boundsError_RuntimeError : Nat := 70
abbrev n_runtime_errorString_Error : Nat := 71
abbrev n_runtime_errorString_RuntimeError : Nat := 72
abbrev n_runtime_plainError_Error : Nat := 73
abbrev n_runtime_plainError_RuntimeError : Nat := 74
abbrev n_runtime_errorAddressString_Error : Nat := 75
abbrev n_runtime_errorAddressString_RuntimeError : Nat := 76
abbrev n_runtime_TypeAssertionError_Error : Nat := 77
abbrev n_runtime_TypeAssertionError_RuntimeError : Nat := 78
abbrev n_runtime_PanicNilError_Error : Nat := 79
abbrev n_runtime_PanicNilError_RuntimeError : Nat := 80
abbrev n_internal_abi_Type_Align : Nat := 81
abbrev n_internal_runtime_maps_unhashableTypeError_Error : Nat := 82
abbrev n_internal_runtime_maps_unhashableTypeError_RuntimeError : Nat := 83
abbrev n_api_Errno_Error : Nat := 84
abbrev n_internal_abi_Kind_String : Nat := 85
abbrev n_var_s_door_gosem_cut_vars_holds_initialisers_alone_see_the_manifest_s_row_cutvarsword_look_11_test_files_too : Nat := 86
abbrev n_var_s_door_the_look_of_gosem_cut_vars_went_over_the_folder_that_the_caller_named_as_the_repository_s_root_look_11 : Nat := 87
abbrev n_var_s_door_unicode_utf8_acceptRanges_is_laid_by_its_own_initialiser_plain_data_look_11 : Nat := 88
abbrev n_var_s_door_unicode_utf8_first_is_laid_by_its_text_alone_pinned_1 : Nat := 89
abbrev n_gosem_cut_vars : Nat := 90
def ptsL : List (Nat × List (Nat × List Nat)) := [
  (13, [(4, [0, 3])]),
  (15, [(2, [0, 3])]),
  (16, [(7, [1, 7, 27, 28, 29]), (11, [1, 9, 10, 27, 28, 29, 37, 38, 39])]),
  (17, [(7, [1, 5, 7, 8])]),
  (18, [(2, [0, 3])]),
  (19, [(3, [0]), (4, [10, 11, 12]), (10, [4, 5, 10, 11, 12])]),
  (20, [(5, [0, 3, 4])]),
  (29, [(2, [0, 4])]),
  (30, [(3, [0, 4, 5]), (14, [0, 4, 5, 8])]),
  (31, [(12, [0, 6, 8]), (18, [1, 45])]),
  (32, [(8, [1, 2, 5, 21, 22, 23])]),
  (33, [(3, [1, 2, 3, 7, 8]), (9, [1, 2, 3, 7, 8, 9])]),
  (36, [(4, [0, 3])]),
  (38, [(3, [0, 1, 5, 6])]),
  (41, [(4, [0, 2, 4])]),
  (42, [(2, [0, 5, 6])]),
  (43, [(3, [0, 1, 4, 6, 7]), (11, [0, 4, 6, 7, 8])]),
  (44, [(38, [175]), (5, [0, 1, 7, 8, 9, 10]), (12, [0, 1, 7, 8, 9, 10, 12]), (16, [0, 1, 7, 8, 9, 10]), (33, []), (25, [0, 7, 8, 9, 14, 15]), (29, [0, 7, 8, 9, 14, 15, 16])]),
  (46, [(2, [0, 2, 4])]),
  (48, [(8, [1, 2, 5])]),
  (49, [(11, [0, 1, 2, 3, 9, 10])]),
  (52, [(2, [0, 1, 5])]),
  (58, [(6, [0, 1, 6, 7])]),
  (59, [(6, [0, 1, 5])]),
  (62, [(2, [2, 4])]),
  (65, [(15, [0, 1, 5, 6, 7, 8, 9, 10])]),
  (67, [(5, [0, 1, 5, 6, 7, 8, 9]), (11, [0, 1, 5, 6, 7, 8, 10])]),
  (68, [(3, [0, 4, 5]), (8, [4, 6, 7, 8])])]
def ownL : List Nat := [41, 29, 30, 43, 33]
noncomputable def cfg (xs : List (Nat × Con)) : Cfg := { P := Tryd.prog, pts := lookP ptsL, own := memN ownL, ext := look xs }
theorem noCount : NoCount Tryd.prog := by
  intro f fn h
  have hall : (Tryd.prog.funcs.toList.all fun fn => !(fn.name == "runtime.NumGoroutine")) = true := by kernel_rfl
  have hm : fn ∈ Tryd.prog.funcs.toList := Array.mem_toList_iff.2 (Array.mem_of_getElem? h)
  have := List.all_eq_true.1 hall fn hm
  simpa using this
theorem mixed : Tryd.prog.follows .mixedOrders = true := by kernel_rfl
theorem cfg_ext {xs : List (Nat × Con)} (h : ∀ p ∈ xs, ExtFor (cfg xs) p.1 p.2) : ExtOk (cfg xs) := extOk_of fun f S hf => h (f, S) (look_mem hf)
/-- A contract holds whatever the other contracts are. -/
theorem con_to {xs ys : List (Nat × Con)} {f : FuncId} {S : Con} (h : ExtFor (cfg xs) f S) : ExtFor (cfg ys) f S := h.to rfl rfl
/-- It holds. -/
def Holds (p : Nat × Con) : Prop := ExtFor (cfg []) p.1 p.2
/-- A contract out of the text. -/
theorem con_run {xs : List (Nat × Con)} (hx : ∀ p ∈ xs, Holds p) {f : FuncId} {S : Con} (h : ∀ aa hp r, S aa hp = some (true, r) → Runs (cfg xs) (.enter f aa hp) r) : Holds (f, S) :=
  con_to (extFor_run (C := cfg xs) (cfg_ext fun p hp => con_to (hx p hp)) noCount mixed h)
theorem hold0 : ∀ p ∈ ([] : List (Nat × Con)), Holds p := fun _ h => by cases h
theorem hold1 {a : Nat × Con} {l : List (Nat × Con)} (h : Holds a) (hl : ∀ p ∈ l, Holds p) : ∀ p ∈ a :: l, Holds p := fun p hp => by
  rcases List.mem_cons.1 hp with rfl | hp
  · exact h
  · exact hl p hp
end Go.Ab
namespace Go.Ab
open Go.Proofs
/-! internal/bytealg.LastIndexByteString -/
noncomputable def LastB_q2 (s0 : ByteArray) (c1 : Int) (i5 : Int) : Req := .point 52 [] (todoAt Tryd.prog 52 2) ⟨[(.lf (.str s0)), (.lf (.int IntKind.u8 c1)), an, an, an, (.lf (.int IntKind.i64 i5)), an, an, an, an, an, an, an, an, an, an, an, an, an], []⟩
theorem LastB_e (G : Req → R) (s0 : ByteArray) (c1 : Int) : runB (cfg []) G (.enter 52 [(.lf (.str (s0))), (.lf (.int IntKind.u8 (c1)))] []) =
  (G (LastB_q2 s0 c1 (wrapI IntKind.i64 ((↑(ByteArray.size s0) : Int) - 1)))) := by kernel_rfl
theorem LastB_p2 (G : Req → R) (s0 : ByteArray) (c1 : Int) (i5 : Int) : runB (cfg []) G (LastB_q2 s0 c1 i5) =
  (cond (leI 0 i5)
   (cond (leI 0 i5 && ltI i5 (↑(ByteArray.size s0) : Int))
    (cond (byI s0 i5 == c1)
     (some [(.int IntKind.i64 (i5))])
     (G (LastB_q2 s0 c1 (wrapI IntKind.i64 (i5 - 1)))))
    none)
   (some [(.int IntKind.i64 (-1))])) := by kernel_rfl

/-! internal/stringslite.HasPrefix -/
theorem HasPreS_e (G : Req → R) (s0 : ByteArray) (prefix1 : ByteArray) : runB (cfg []) G (.enter 53 [(.lf (.str (s0))), (.lf (.str (prefix1)))] []) =
  (cond (leI (↑(ByteArray.size prefix1) : Int) (↑(ByteArray.size s0) : Int))
   (cond (leI 0 (↑(ByteArray.size prefix1) : Int) && leI (↑(ByteArray.size prefix1) : Int) (↑(ByteArray.size s0) : Int))
    (some [(.bool (bl (ByteArray.extract s0 0 (Int.toNat (↑(ByteArray.size prefix1) : Int))) == bl prefix1))])
    none)
   (some [(.bool (false))])) := by kernel_rfl

/-! codesearch/glob.letter -/
theorem letter_e (G : Req → R) (c0 : Int) : runB (cfg []) G (.enter 35 [(.lf (.int IntKind.u8 (c0)))] []) =
  (cond (leI 97 c0)
   (cond (leI c0 122)
    (some [(.bool (true))])
    (cond (leI 65 c0)
     (cond (leI c0 90)
      (some [(.bool (true))])
      (cond (leI 48 c0)
       (cond (leI c0 57)
        (some [(.bool (true))])
        (cond (c0 == 46)
         (some [(.bool (true))])
         (cond (c0 == 95)
          (some [(.bool (true))])
          (some [(.bool (c0 == 45))]))))
       (cond (c0 == 46)
        (some [(.bool (true))])
        (cond (c0 == 95)
         (some [(.bool (true))])
         (some [(.bool (c0 == 45))])))))
     (cond (leI 48 c0)
      (cond (leI c0 57)
       (some [(.bool (true))])
       (cond (c0 == 46)
        (some [(.bool (true))])
        (cond (c0 == 95)
         (some [(.bool (true))])
         (some [(.bool (c0 == 45))]))))
      (cond (c0 == 46)
       (some [(.bool (true))])
       (cond (c0 == 95)
        (some [(.bool (true))])
        (some [(.bool (c0 == 45))]))))))
   (cond (leI 65 c0)
    (cond (leI c0 90)
     (some [(.bool (true))])
     (cond (leI 48 c0)
      (cond (leI c0 57)
       (some [(.bool (true))])
       (cond (c0 == 46)
        (some [(.bool (true))])
        (cond (c0 == 95)
         (some [(.bool (true))])
         (some [(.bool (c0 == 45))]))))
      (cond (c0 == 46)
       (some [(.bool (true))])
       (cond (c0 == 95)
        (some [(.bool (true))])
        (some [(.bool (c0 == 45))])))))
    (cond (leI 48 c0)
     (cond (leI c0 57)
      (some [(.bool (true))])
      (cond (c0 == 46)
       (some [(.bool (true))])
       (cond (c0 == 95)
        (some [(.bool (true))])
        (some [(.bool (c0 == 45))]))))
     (cond (c0 == 46)
      (some [(.bool (true))])
      (cond (c0 == 95)
       (some [(.bool (true))])
       (some [(.bool (c0 == 45))])))))) := by kernel_rfl

/-! codesearch/codesearchref02.Letter -/
theorem rLetter_e (G : Req → R) (c0 : Int) : runB (cfg []) G (.enter 50 [(.lf (.int IntKind.u8 (c0)))] []) =
  (cond (leI 65 c0)
   (cond (leI c0 90)
    (some [(.bool (true))])
    (cond (leI 97 c0)
     (some [(.bool (leI c0 122))])
     (some [(.bool (false))])))
   (cond (leI 97 c0)
    (some [(.bool (leI c0 122))])
    (some [(.bool (false))]))) := by kernel_rfl

/-! codesearch/codesearchref02.Digit -/
theorem rDigit_e (G : Req → R) (c0 : Int) : runB (cfg []) G (.enter 51 [(.lf (.int IntKind.u8 (c0)))] []) =
  (cond (leI 48 c0)
   (some [(.bool (leI c0 57))])
   (some [(.bool (false))])) := by kernel_rfl

/-! codesearch/codesearchref02.last -/
noncomputable def rlast_q3 (s0 : ByteArray) (c1 : Int) (k5 : Int) (i6 : Int) : Req := .point 38 [] (todoAt Tryd.prog 38 3) ⟨[(.lf (.str s0)), (.lf (.int IntKind.u8 c1)), an, an, an, (.lf (.int IntKind.i64 k5)), (.lf (.int IntKind.i64 i6)), an, an, an, an, an, an, an, an, an, an, an, an, an], []⟩
theorem rlast_e (G : Req → R) (s0 : ByteArray) (c1 : Int) : runB (cfg []) G (.enter 38 [(.lf (.str (s0))), (.lf (.int IntKind.u8 (c1)))] []) =
  (G (rlast_q3 s0 c1 (-1) 0)) := by kernel_rfl
theorem rlast_p3 (G : Req → R) (s0 : ByteArray) (c1 : Int) (k5 : Int) (i6 : Int) : runB (cfg []) G (rlast_q3 s0 c1 k5 i6) =
  (cond (ltI i6 (↑(ByteArray.size s0) : Int))
   (cond (leI 0 i6 && ltI i6 (↑(ByteArray.size s0) : Int))
    (cond (byI s0 i6 == c1)
     (G (rlast_q3 s0 c1 i6 (wrapI IntKind.i64 (i6 + 1))))
     (G (rlast_q3 s0 c1 k5 (wrapI IntKind.i64 (i6 + 1)))))
    none)
   (some [(.int IntKind.i64 (k5))])) := by kernel_rfl

/-! codesearch/glob.printable -/
noncomputable def printable_q2 (s0 : ByteArray) (x5 : Int) (x6 : Int) : Req := .point 42 [] (todoAt Tryd.prog 42 2) ⟨[(.lf (.str s0)), an, an, an, an, (.lf (.int IntKind.i64 x5)), (.lf (.int IntKind.i64 x6)), an, an, an, an, an, an, an, an, an, an, an, an, an], []⟩
theorem printable_e (G : Req → R) (s0 : ByteArray) : runB (cfg []) G (.enter 42 [(.lf (.str (s0)))] []) =
  (G (printable_q2 s0 ((↑(ByteArray.size s0) : Int)) 0)) := by kernel_rfl
theorem printable_p2 (G : Req → R) (s0 : ByteArray) (x5 : Int) (x6 : Int) : runB (cfg []) G (printable_q2 s0 x5 x6) =
  (cond (ltI x6 x5)
   (cond (leI 0 x6 && ltI x6 (↑(ByteArray.size s0) : Int))
    (cond (ltI (byI s0 x6) 33)
     (some [(.bool (false))])
     (cond (leI 0 x6 && ltI x6 (↑(ByteArray.size s0) : Int))
      (cond (ltI 126 (byI s0 x6))
       (some [(.bool (false))])
       (G (printable_q2 s0 x5 (wrapI IntKind.i64 (x6 + 1)))))
      none))
    none)
   (some [(.bool (true))])) := by kernel_rfl

/-! codesearch/codesearchlaw02.slash -/
noncomputable def slash_q2 (s0 : ByteArray) (i3 : Int) : Req := .point 18 [] (todoAt Tryd.prog 18 2) ⟨[(.lf (.str s0)), an, an, (.lf (.int IntKind.i64 i3)), an, an, an, an, an, an, an, an, an, an], []⟩
theorem slash_e (G : Req → R) (s0 : ByteArray) : runB (cfg []) G (.enter 18 [(.lf (.str (s0)))] []) =
  (G (slash_q2 s0 0)) := by kernel_rfl
theorem slash_p2 (G : Req → R) (s0 : ByteArray) (i3 : Int) : runB (cfg []) G (slash_q2 s0 i3) =
  (cond (ltI i3 (↑(ByteArray.size s0) : Int))
   (cond (leI 0 i3 && ltI i3 (↑(ByteArray.size s0) : Int))
    (cond (byI s0 i3 == 47)
     (some [(.bool (true))])
     (G (slash_q2 s0 (wrapI IntKind.i64 (i3 + 1)))))
    none)
   (some [(.bool (false))])) := by kernel_rfl

/-! codesearch/codesearchlaw02.short -/
theorem short_e (G : Req → R) (s0 : ByteArray) : runB (cfg []) G (.enter 11 [(.lf (.str (s0)))] []) =
  (some [(.bool (leI (↑(ByteArray.size s0) : Int) 200))]) := by kernel_rfl

/-! (codesearch/glob.element).stands -/
noncomputable def stands_q8 (c1 : Int) (in5 : Bool) (x21 : List (List L)) (x22 : Int) (x23 : Int) (h0_0 : Int) (h0_1 : Int) (h0_2 : Bool) (h0_3 : List (List L)) : Req := .point 32 [] (todoAt Tryd.prog 32 8) ⟨[an, (.lf (.int IntKind.u8 c1)), (.lf (.ptr 0 0)), an, an, (.lf (.bool in5)), an, an, an, an, an, an, an, an, an, an, an, an, an, an, an, (.lf (.lst 59 x21)), (.lf (.int IntKind.i64 x22)), (.lf (.int IntKind.i64 x23)), an, an, an, an, an, an, an, an, an, an, an, an, an, an, an, an, an, an, an, an, an, an, an, an, an], [(.box [(.int IntKind.i64), (.int IntKind.u8), .bool, (.sl 59)] [(.int IntKind.i64 h0_0), (.int IntKind.u8 h0_1), (.bool h0_2), (.lst 59 h0_3)])]⟩
theorem stands_e (G : Req → R) (x0_0 : Int) (x0_1 : Int) (x0_2 : Bool) (x0_3 : List (List L)) (c1 : Int) : runB (cfg []) G (.enter 32 [(.agg [(.int IntKind.i64 (x0_0)), (.int IntKind.u8 (x0_1)), (.bool (x0_2)), (.lst 59 x0_3)]), (.lf (.int IntKind.u8 (c1)))] []) =
  (cond (x0_0 == 0)
   (some [(.bool (c1 == x0_1))])
   (cond (x0_0 == 3)
    (some [(.bool (c1 != 47))])
    (G (stands_q8 c1 false x0_3 ((↑(List.length x0_3) : Int)) 0 x0_0 x0_1 x0_2 x0_3)))) := by kernel_rfl
theorem stands_p8 (G : Req → R) (c1 : Int) (in5 : Bool) (x21 : List (List L)) (x22 : Int) (x23 : Int) (h0_0 : Int) (h0_1 : Int) (h0_2 : Bool) (h0_3 : List (List L)) : runB (cfg []) G (stands_q8 c1 in5 x21 x22 x23 h0_0 h0_1 h0_2 h0_3) =
  (cond (ltI x23 x22)
   (cond (leI 0 x23 && ltI x23 (↑(List.length x21) : Int))
    (cond (in5)
     (G (stands_q8 c1 true x21 x22 (wrapI IntKind.i64 (x23 + 1)) h0_0 h0_1 h0_2 h0_3))
     (cond (leI (cI 0 (atL x21 x23)) c1)
      (G (stands_q8 c1 (leI c1 (cI 1 (atL x21 x23))) x21 x22 (wrapI IntKind.i64 (x23 + 1)) h0_0 h0_1 h0_2 h0_3))
      (G (stands_q8 c1 false x21 x22 (wrapI IntKind.i64 (x23 + 1)) h0_0 h0_1 h0_2 h0_3))))
    none)
   (cond (c1 != 47)
    (some [(.bool (!in5 == h0_2))])
    (some [(.bool (false))]))) := by kernel_rfl

/-! codesearch/codesearchref02.one -/
noncomputable def one_q8 (c1 : Int) (i5 : Int) (h0_0 : Int) (h0_1 : Int) (h0_2 : Bool) (h0_3 : List (List L)) : Req := .point 48 [] (todoAt Tryd.prog 48 8) ⟨[an, (.lf (.int IntKind.u8 c1)), (.lf (.ptr 0 0)), an, an, (.lf (.int IntKind.i64 i5)), an, an, an, an, an, an, an, an, an, an, an, an, an, an, an, an, an, an, an, an, an, an, an, an, an, an, an, an, an, an, an, an, an, an, an, an, an, an, an, an, an, an], [(.box [(.int IntKind.i64), (.int IntKind.u8), .bool, (.sl 63)] [(.int IntKind.i64 h0_0), (.int IntKind.u8 h0_1), (.bool h0_2), (.lst 63 h0_3)])]⟩
theorem one_e (G : Req → R) (e0_0 : Int) (e0_1 : Int) (e0_2 : Bool) (e0_3 : List (List L)) (c1 : Int) : runB (cfg []) G (.enter 48 [(.agg [(.int IntKind.i64 (e0_0)), (.int IntKind.u8 (e0_1)), (.bool (e0_2)), (.lst 63 e0_3)]), (.lf (.int IntKind.u8 (c1)))] []) =
  (cond (e0_0 == 1)
   (some [(.bool (c1 == e0_1))])
   (cond (c1 == 47)
    (some [(.bool (false))])
    (cond (e0_0 == 2)
     (some [(.bool (true))])
     (G (one_q8 c1 0 e0_0 e0_1 e0_2 e0_3))))) := by kernel_rfl
theorem one_p8 (G : Req → R) (c1 : Int) (i5 : Int) (h0_0 : Int) (h0_1 : Int) (h0_2 : Bool) (h0_3 : List (List L)) : runB (cfg []) G (one_q8 c1 i5 h0_0 h0_1 h0_2 h0_3) =
  (cond (ltI i5 (↑(List.length h0_3) : Int))
   (cond (leI 0 i5 && ltI i5 (↑(List.length h0_3) : Int))
    (cond (leI (cI 0 (atL h0_3 i5)) c1)
     (cond (leI 0 i5 && ltI i5 (↑(List.length h0_3) : Int))
      (cond (leI c1 (cI 1 (atL h0_3 i5)))
       (some [(.bool (!h0_2))])
       (G (one_q8 c1 (wrapI IntKind.i64 (i5 + 1)) h0_0 h0_1 h0_2 h0_3)))
      none)
     (G (one_q8 c1 (wrapI IntKind.i64 (i5 + 1)) h0_0 h0_1 h0_2 h0_3)))
    none)
   (some [(.bool (h0_2))])) := by kernel_rfl

/-! codesearch/codesearchref02.Prefix -/
noncomputable def rPrefix_q2 (g0 : ByteArray) (i3 : Int) : Req := .point 15 [] (todoAt Tryd.prog 15 2) ⟨[(.lf (.str g0)), an, an, (.lf (.int IntKind.i64 i3)), an, an, an, an, an, an, an, an, an, an, an, an, an, an, an, an, an, an, an, an, an, an, an, an, an, an], []⟩
theorem rPrefix_e (G : Req → R) (g0 : ByteArray) : runB (cfg []) G (.enter 15 [(.lf (.str (g0)))] []) =
  (G (rPrefix_q2 g0 0)) := by kernel_rfl
theorem rPrefix_p2 (G : Req → R) (g0 : ByteArray) (i3 : Int) : runB (cfg []) G (rPrefix_q2 g0 i3) =
  (cond (ltI i3 (↑(ByteArray.size g0) : Int))
   (cond (leI 0 i3 && ltI i3 (↑(ByteArray.size g0) : Int))
    (cond (byI g0 i3 == 42)
     (cond (leI 0 i3 && leI i3 (↑(ByteArray.size g0) : Int))
      (some [(.str (ByteArray.extract g0 0 (Int.toNat i3)))])
      none)
     (cond (leI 0 i3 && ltI i3 (↑(ByteArray.size g0) : Int))
      (cond (byI g0 i3 == 63)
       (cond (leI 0 i3 && leI i3 (↑(ByteArray.size g0) : Int))
        (some [(.str (ByteArray.extract g0 0 (Int.toNat i3)))])
        none)
       (cond (leI 0 i3 && ltI i3 (↑(ByteArray.size g0) : Int))
        (cond (byI g0 i3 == 91)
         (cond (leI 0 i3 && leI i3 (↑(ByteArray.size g0) : Int))
          (some [(.str (ByteArray.extract g0 0 (Int.toNat i3)))])
          none)
         (G (rPrefix_q2 g0 (wrapI IntKind.i64 (i3 + 1)))))
        none))
      none))
    none)
   (some [(.str (g0))])) := by kernel_rfl

end Go.Ab
namespace Go.Ab
open Go.Proofs

/-! ### forms of contracts -/
def cS (f : List UInt8 → List L) : Con
  | [.lf (.str s)], [] => some (Nat.ble s.size 1000000000000, f (bl s))
  | _, _ => none
def cSS (f : List UInt8 → List UInt8 → List L) : Con
  | [.lf (.str s), .lf (.str t)], [] => some (Nat.ble s.size 1000000000000 && Nat.ble t.size 1000000000000, f (bl s) (bl t))
  | _, _ => none
def cSB (f : List UInt8 → Int → List L) : Con
  | [.lf (.str s), .lf (.int .u8 c)], [] => some (Nat.ble s.size 1000000000000, f (bl s) c)
  | _, _ => none
def cB (f : Int → List L) : Con
  | [.lf (.int .u8 c)], [] => some (true, f c)
  | _, _ => none
theorem cS_of {xs : List (Nat × Con)} {n : Nat} {f : List UInt8 → List L} (hx : ∀ p ∈ xs, Holds p) (h : ∀ l : List UInt8, l.length ≤ 1000000000000 → Runs (cfg xs) (.enter n [.lf (.str (mk l))] []) (f l)) : Holds (n, cS f) :=
  con_run hx fun aa hp r h0 => by
    unfold cS at h0
    split at h0
    · rename_i s
      obtain ⟨g, rfl⟩ := xo h0
      exact h (bl s) (by rw [bl_size]; exact Nat.le_of_ble_eq_true g)
    · cases h0
theorem cSS_of {xs : List (Nat × Con)} {n : Nat} {f : List UInt8 → List UInt8 → List L} (hx : ∀ p ∈ xs, Holds p) (h : ∀ l m : List UInt8, l.length ≤ 1000000000000 → m.length ≤ 1000000000000 → Runs (cfg xs) (.enter n [.lf (.str (mk l)), .lf (.str (mk m))] []) (f l m)) : Holds (n, cSS f) :=
  con_run hx fun aa hp r h0 => by
    unfold cSS at h0
    split at h0
    · rename_i s t
      obtain ⟨g, rfl⟩ := xo h0
      rw [Bool.and_eq_true] at g
      exact h (bl s) (bl t) (by rw [bl_size]; exact Nat.le_of_ble_eq_true g.1) (by rw [bl_size]; exact Nat.le_of_ble_eq_true g.2)
    · cases h0
theorem cSB_of {xs : List (Nat × Con)} {n : Nat} {f : List UInt8 → Int → List L} (hx : ∀ p ∈ xs, Holds p) (h : ∀ (l : List UInt8) c, l.length ≤ 1000000000000 → Runs (cfg xs) (.enter n [.lf (.str (mk l)), .lf (.int .u8 c)] []) (f l c)) : Holds (n, cSB f) :=
  con_run hx fun aa hp r h0 => by
    unfold cSB at h0
    split at h0
    · rename_i s c
      obtain ⟨g, rfl⟩ := xo h0
      exact h (bl s) c (by rw [bl_size]; exact Nat.le_of_ble_eq_true g)
    · cases h0
theorem cB_of {xs : List (Nat × Con)} {n : Nat} {f : Int → List L} (hx : ∀ p ∈ xs, Holds p) (h : ∀ c, Runs (cfg xs) (.enter n [.lf (.int .u8 c)] []) (f c)) : Holds (n, cB f) :=
  con_run hx fun aa hp r h0 => by
    unfold cB at h0
    split at h0
    · rename_i c
      obtain ⟨g, rfl⟩ := xo h0
      exact h c
    · cases h0

/-! ### the last byte c among the first n -/
def atI (l : List UInt8) (i : Nat) : Int := ((l.getD i 0).toNat : Int)
def lastN (l : List UInt8) (c : Int) : Nat → Int
  | 0 => -1
  | n + 1 => cond (atI l n == c) (n : Int) (lastN l c n)
def lastI (l : List UInt8) (c : Int) : Int := lastN l c l.length
theorem lastN_cases (s : List UInt8) (c : Int) : ∀ n, (lastN s c n = -1 ∧ ∀ i, i < n → atI s i ≠ c) ∨ ∃ k, k < n ∧ lastN s c n = (k : Int) ∧ atI s k = c ∧ ∀ i, k < i → i < n → atI s i ≠ c
  | 0 => .inl ⟨rfl, fun i h => absurd h (Nat.not_lt_zero _)⟩
  | n + 1 => by
    simp only [lastN]
    cases h : atI s n == c with
    | true => exact .inr ⟨n, Nat.lt_succ_self _, rfl, by simpa using h, fun i h1 h2 => by omega⟩
    | false =>
      have hn : atI s n ≠ c := by simpa using h
      rcases lastN_cases s c n with ⟨h1, h2⟩ | ⟨k, h1, h2, h3, h4⟩
      · refine .inl ⟨h1, fun i hi => ?_⟩
        by_cases e : i = n
        · rw [e]; exact hn
        · exact h2 i (by omega)
      · refine .inr ⟨k, by omega, h2, h3, fun i hi1 hi2 => ?_⟩
        by_cases e : i = n
        · rw [e]; exact hn
        · exact h4 i hi1 (by omega)
theorem lastI_lo (s : List UInt8) (c : Int) : -1 ≤ lastI s c := by
  unfold lastI
  rcases lastN_cases s c s.length with ⟨h1, _⟩ | ⟨k, _, h2, _⟩ <;> omega
theorem lastI_hi (s : List UInt8) (c : Int) : lastI s c < (s.length : Int) := by
  unfold lastI
  rcases lastN_cases s c s.length with ⟨h1, _⟩ | ⟨k, h1, h2, _⟩ <;> omega

theorem LastB_loop (l : List UInt8) (c : Int) (hl : l.length ≤ 1000000000000) : ∀ n, n ≤ l.length → Runs (cfg []) (LastB_q2 (mk l) c ((n : Int) - 1)) [.int .i64 (lastN l c n)]
  | 0, _ => by
    refine Runs.by (LastB_p2 · _ _ _) ?_
    simp (disch := omega) only [ev_le_f, cond_false]
    exact .ret
  | n + 1, h => by
    refine Runs.by (LastB_p2 · _ _ _) ?_
    have e : ((n + 1 : Nat) : Int) - 1 = (n : Int) := by omega
    rw [e]
    simp (disch := omega) only [size_mk, byI_mk, ev_le_t, ev_lt_t, Bool.and_self, cond_true, Int.toNat_natCast, lastN, w64]
    cases hb : atI l n == c with
    | true =>
      have hb' : ((l.getD n 0).toNat : Int) == c := hb
      simp only [hb', cond_true]
      exact .ret
    | false =>
      have hb' : (((l.getD n 0).toNat : Int) == c) = false := hb
      simp only [hb', cond_false]
      exact .go (LastB_loop l c hl n (by omega))
def k_LastB : Nat × Con := (n_internal_bytealg_LastIndexByteString, cSB fun l c => [.int .i64 (lastI l c)])
theorem LastB_holds : Holds k_LastB := cSB_of (xs := []) hold0 fun l c hl => by
  refine Runs.by (LastB_e · _ _) ?_
  rw [size_mk, w64 (by omega) (by omega)]
  exact .go (LastB_loop l c hl l.length (Nat.le_refl _))

theorem rlast_loop (l : List UInt8) (c : Int) (hl : l.length ≤ 1000000000000) : ∀ m i, i + m = l.length → Runs (cfg []) (rlast_q3 (mk l) c (lastN l c i) (i : Int)) [.int .i64 (lastI l c)]
  | 0, i, h => by
    refine Runs.by (rlast_p3 · _ _ _ _) ?_
    simp (disch := omega) only [size_mk, ev_lt_f, cond_false]
    obtain rfl : i = l.length := by omega
    exact .ret
  | m + 1, i, h => by
    refine Runs.by (rlast_p3 · _ _ _ _) ?_
    simp (disch := omega) only [size_mk, byI_mk, ev_le_t, ev_lt_t, Bool.and_self, cond_true, Int.toNat_natCast, w64]
    have ih := rlast_loop l c hl m (i + 1) (by omega)
    cases hb : (((l.getD i 0).toNat : Int) == c) with
    | true =>
      have hb' : (atI l i == c) = true := hb
      simp only [lastN, hb', cond_true] at ih
      exact .go ih
    | false =>
      have hb' : (atI l i == c) = false := hb
      simp only [lastN, hb', cond_false] at ih
      exact .go ih
def k_rlast : Nat × Con := (n_codesearchref02_last, cSB fun l c => [.int .i64 (lastI l c)])
theorem rlast_holds : Holds k_rlast := cSB_of (xs := []) hold0 fun l c hl => by
  refine Runs.by (rlast_e · _ _) ?_
  exact .go (rlast_loop l c hl l.length 0 (by omega))

/-! ### slash, short, HasPrefix, letter, printable -/
def hasB (c : UInt8) (l : List UInt8) : Bool := l.any (· == c)
theorem slash_loop (l : List UInt8) (hl : l.length ≤ 1000000000000) : ∀ m i, i + m = l.length → Runs (cfg []) (slash_q2 (mk l) (i : Int)) [.bool (hasB 47 (l.drop i))]
  | 0, i, h => by
    refine Runs.by (slash_p2 · _ _) ?_
    simp (disch := omega) only [size_mk, ev_lt_f, cond_false]
    rw [List.drop_eq_nil_of_le (by omega)]
    exact .ret
  | m + 1, i, h => by
    refine Runs.by (slash_p2 · _ _) ?_
    obtain ⟨b, hd, hg, _⟩ := getD_drop (l := l) (i := i) (by omega)
    simp (disch := omega) only [size_mk, byI_mk, ev_le_t, ev_lt_t, Bool.and_self, cond_true, Int.toNat_natCast, w64, hg]
    rw [hd]
    by_cases e : b = 47
    · subst e; exact .ret
    · have h1 : ((b.toNat : Int) == 47) = false := by
        rw [ev_eq_f]; intro h; exact e (UInt8.toNat_inj.1 (by simpa using Int.ofNat.inj h))
      have h2 : (b == 47) = false := by simpa using e
      simp only [h1, cond_false, hasB, List.any_cons, h2, Bool.false_or]
      exact .go (slash_loop l hl m (i + 1) (by omega))
def k_slash : Nat × Con := (n_codesearchlaw02_slash, cS fun l => [.bool (hasB 47 l)])
theorem slash_holds : Holds k_slash := cS_of (xs := []) hold0 fun l hl => by
  refine Runs.by (slash_e · _) ?_
  exact .go (slash_loop l hl l.length 0 (by omega))
def k_short : Nat × Con := (n_codesearchlaw02_short, fun
  | [.lf (.str s)], [] => some (true, [.bool (leI (s.size : Int) 200)])
  | _, _ => none)
theorem short_holds : Holds k_short := con_run (xs := []) hold0 fun aa hp r h => by
  split at h
  case h_2 => cases h
  obtain ⟨_, rfl⟩ := xo h
  exact Runs.by (short_e · _) .ret

theorem preB_eq (l m : List UInt8) : (cond (leI (m.length : Int) (l.length : Int)) ((l.take m.length) == m) false) = m.isPrefixOf l := by
  rw [leI_eq]
  by_cases h : m.length ≤ l.length
  · have : decide ((m.length : Int) ≤ (l.length : Int)) = true := by simpa using h
    rw [this, cond_true, Bool.eq_iff_iff]
    simp only [beq_iff_eq, List.isPrefixOf_iff_prefix]
    rw [List.prefix_iff_eq_take]
    exact eq_comm
  · have : decide ((m.length : Int) ≤ (l.length : Int)) = false := by simpa using h
    rw [this, cond_false]
    symm
    rw [Bool.eq_false_iff]
    intro hp
    exact h (List.isPrefixOf_iff_prefix.1 hp).length_le
def k_HasPreS : Nat × Con := (n_internal_stringslite_HasPrefix, cSS fun l m => [.bool (m.isPrefixOf l)])
theorem HasPreS_holds : Holds k_HasPreS := cSS_of (xs := []) hold0 fun l m hl hm => by
  refine Runs.by (HasPreS_e · _ _) ?_
  rw [← preB_eq]
  simp (disch := omega) only [size_mk, toL, ext_mk, bl_mk, Int.toNat_natCast, List.drop_zero, ev_le_t, Bool.true_and]
  cases leI (m.length : Int) (l.length : Int) <;> exact .ret

def letB (c : Int) : Bool := (leI 97 c && leI c 122) || ((leI 65 c && leI c 90) || ((leI 48 c && leI c 57) || (c == 46 || (c == 95 || c == 45))))
def k_letter : Nat × Con := (n_glob_letter, cB fun c => [.bool (letB c)])
theorem letter_holds : Holds k_letter := cB_of (xs := []) hold0 fun c => by
  refine Runs.by (letter_e · _) ?_
  unfold letB
  cases leI 97 c <;> cases leI c 122 <;> cases leI 65 c <;> cases leI c 90 <;> cases leI 48 c <;> cases leI c 57 <;> cases c == 46 <;> cases c == 95 <;> exact .ret
def k_rLetter : Nat × Con := (n_codesearchref02_Letter, cB fun c => [.bool ((leI 65 c && leI c 90) || (leI 97 c && leI c 122))])
theorem rLetter_holds : Holds k_rLetter := cB_of (xs := []) hold0 fun c => by
  refine Runs.by (rLetter_e · _) ?_
  cases leI 97 c <;> cases leI c 122 <;> cases leI 65 c <;> cases leI c 90 <;> exact .ret
def k_rDigit : Nat × Con := (n_codesearchref02_Digit, cB fun c => [.bool (leI 48 c && leI c 57)])
theorem rDigit_holds : Holds k_rDigit := cB_of (xs := []) hold0 fun c => by
  refine Runs.by (rDigit_e · _) ?_
  cases leI 48 c <;> cases leI c 57 <;> exact .ret

def visB (b : UInt8) : Bool := decide (33 ≤ b.toNat ∧ b.toNat ≤ 126)
theorem printable_loop (l : List UInt8) (hl : l.length ≤ 1000000000000) : ∀ m i, i + m = l.length → Runs (cfg []) (printable_q2 (mk l) (l.length : Int) (i : Int)) [.bool ((l.drop i).all visB)]
  | 0, i, h => by
    refine Runs.by (printable_p2 · _ _ _) ?_
    simp (disch := omega) only [ev_lt_f, cond_false]
    rw [List.drop_eq_nil_of_le (by omega)]
    exact .ret
  | m + 1, i, h => by
    refine Runs.by (printable_p2 · _ _ _) ?_
    obtain ⟨b, hd, hg, _⟩ := getD_drop (l := l) (i := i) (by omega)
    simp (disch := omega) only [size_mk, byI_mk, ev_le_t, ev_lt_t, Bool.and_self, cond_true, Int.toNat_natCast, w64, hg]
    rw [hd, List.all_cons]
    have ih := printable_loop l hl m (i + 1) (by omega)
    by_cases h1 : b.toNat < 33
    · have : visB b = false := decide_eq_false (by omega)
      simp (disch := omega) only [ev_lt_t, cond_true, this, Bool.false_and]
      exact .ret
    · by_cases h2 : 126 < b.toNat
      · have : visB b = false := decide_eq_false (by omega)
        simp (disch := omega) only [ev_lt_f, ev_lt_t, cond_true, cond_false, this, Bool.false_and]
        exact .ret
      · have : visB b = true := decide_eq_true (by omega)
        simp (disch := omega) only [ev_lt_f, cond_false, this, Bool.true_and]
        exact .go ih
def k_printable : Nat × Con := (n_glob_printable, cS fun l => [.bool (l.all visB)])
theorem printable_holds : Holds k_printable := cS_of (xs := []) hold0 fun l hl => by
  refine Runs.by (printable_e · _) ?_
  exact .go (printable_loop l hl l.length 0 (by omega))
end Go.Ab
namespace Go.Ab
open Go.Proofs

/-! ### library -/
/-- Where the byte c first stands. -/
def ixI (l : List UInt8) (c : Int) : Int := Lib.indexByte l c.toNat.toUInt8
def k_IndexByte : Nat × Con := (n_strings_IndexByte, cSB fun l c => [.int .i64 (ixI l c)])
def k_IndexByteS : Nat × Con := (n_internal_stringslite_IndexByte, cSB fun l c => [.int .i64 (ixI l c)])
/-- strings.Count and strings.Index, of one byte. -/
def k_Count : Nat × Con := (n_strings_Count, fun
  | [.lf (.str s), .lf (.str t)], [] => some (Nat.beq t.size 1 && Nat.ble s.size 1000000000000, [.int .i64 (Lib.countByte (bl s) ((bl t).getD 0 0))])
  | _, _ => none)
def k_Index : Nat × Con := (n_strings_Index, fun
  | [.lf (.str s), .lf (.str t)], [] => some (Nat.beq t.size 1 && Nat.ble s.size 1000000000000, [.int .i64 (Lib.indexByte (bl s) ((bl t).getD 0 0))])
  | _, _ => none)
def k_LastIdx : Nat × Con := (n_strings_LastIndexByte, cSB fun l c => [.int .i64 (lastI l c)])
def k_HasPre : Nat × Con := (n_strings_HasPrefix, cSS fun l m => [.bool (m.isPrefixOf l)])
/-- The parts between the bytes c. -/
def splitB (c : UInt8) : List UInt8 → List (List UInt8)
  | [] => [[]]
  | b :: l => if b = c then [] :: splitB c l else match splitB c l with
    | [] => [[b]]
    | w :: ws => (b :: w) :: ws
def encS (ws : List (List UInt8)) : List (List L) := ws.map fun w => [.str (mk w)]
def k_genSplit : Nat × Con := (n_strings_genSplit, fun
  | [.lf (.str s), .lf (.str t), .lf (.int .i64 z), .lf (.int .i64 n)], [] => some (Nat.beq t.size 1 && Nat.ble s.size 1000000 && (z == 0 && n == -1), [.lst 9 (encS (splitB ((bl t).getD 0 0) (bl s)))])
  | _, _ => none)
def k_Split : Nat × Con := (n_strings_Split, fun
  | [.lf (.str s), .lf (.str t)], [] => some (Nat.beq t.size 1 && Nat.ble s.size 1000000, [.lst 9 (encS (splitB ((bl t).getD 0 0) (bl s)))])
  | _, _ => none)

/-! ### paths -/
def baseB (l : List UInt8) : List UInt8 := l.drop (lastI l 47 + 1).toNat
def dirB (l : List UInt8) : List UInt8 := l.take (lastI l 47).toNat
def extB (l : List UInt8) : List UInt8 := if lastI (baseB l) 46 < 0 then [] else (baseB l).drop (lastI (baseB l) 46 + 1).toNat
def underB (l d : List UInt8) : Bool := d.isEmpty || (d ++ [47]).isPrefixOf l
def nameB (l : List UInt8) : Bool := (decide (1 ≤ l.length) && decide (l.length ≤ 24)) && (!(l == [46]) && (!(l == [46, 46]) && l.all fun b => letB (b.toNat : Int)))
def validB (l : List UInt8) : Bool := decide (l.length ≤ 60) && (splitB 47 l).all nameB
def k_Base : Nat × Con := (n_glob_Base, cS fun l => [.str (mk (baseB l))])
def k_rBase : Nat × Con := (n_codesearchref02_Base, cS fun l => [.str (mk (baseB l))])
def k_Dir : Nat × Con := (n_glob_Dir, cS fun l => [.str (mk (dirB l))])
def k_rDir : Nat × Con := (n_codesearchref02_Dir, cS fun l => [.str (mk (dirB l))])
def k_Ext : Nat × Con := (n_glob_Ext, cS fun l => [.str (mk (extB l))])
def k_rExt : Nat × Con := (n_codesearchref02_Ext, cS fun l => [.str (mk (extB l))])
def k_Under : Nat × Con := (n_glob_Under, fun
  | [.lf (.str s), .lf (.str t)], [] => some (Nat.ble s.size 1000000000 && Nat.ble t.size 1000000000, [.bool (underB (bl s) (bl t))])
  | _, _ => none)
def k_rUnder : Nat × Con := (n_codesearchref02_Under, cSS fun l m => [.bool (underB l m)])
def k_rname : Nat × Con := (n_codesearchref02_name, cS fun l => [.bool (nameB l)])
def k_ValidPath : Nat × Con := (n_glob_ValidPath, cS fun l => [.bool (validB l)])
def k_rValidPath : Nat × Con := (n_codesearchref02_ValidPath, cS fun l => [.bool (validB l)])

/-! ### patterns -/
/-- A pattern's element. -/
inductive El where
  | byte (c : UInt8)
  | any2
  | any1
  | one
  | set (neg : Bool) (rs : List (UInt8 × UInt8))
def encRs (rs : List (UInt8 × UInt8)) : List (List L) := rs.map fun r => [.int .u8 r.1.toNat, .int .u8 r.2.toNat]
/-- As the program has it. -/
def encG : El → List L
  | .byte c => [.int .i64 0, .int .u8 c.toNat, .bool false, .lst 59 []]
  | .any2 => [.int .i64 1, .int .u8 42, .bool false, .lst 59 []]
  | .any1 => [.int .i64 2, .int .u8 42, .bool false, .lst 59 []]
  | .one => [.int .i64 3, .int .u8 63, .bool false, .lst 59 []]
  | .set neg rs => [.int .i64 4, .int .u8 0, .bool neg, .lst 59 (encRs rs)]
/-- As the reference has it. -/
def encR : El → List L
  | .byte c => [.int .i64 1, .int .u8 c.toNat, .bool false, .lst 63 []]
  | .any2 => [.int .i64 4, .int .u8 0, .bool false, .lst 63 []]
  | .any1 => [.int .i64 3, .int .u8 0, .bool false, .lst 63 []]
  | .one => [.int .i64 2, .int .u8 0, .bool false, .lst 63 []]
  | .set neg rs => [.int .i64 5, .int .u8 0, .bool neg, .lst 63 (encRs rs)]
/-- The ranges of a set, as far as they are right, and whether all are. -/
def rangesP : List UInt8 → List (UInt8 × UInt8) × Bool
  | a :: d :: b :: r =>
    if d = 45 then (if b < a then ([], false) else ((a, b) :: (rangesP r).1, (rangesP r).2))
    else ((a, a) :: (rangesP (d :: b :: r)).1, (rangesP (d :: b :: r)).2)
  | [a, b] => ([(a, a), (b, b)], true)
  | [a] => ([(a, a)], true)
  | [] => ([], true)
def negB (l : List UInt8) : Bool := l.head? == some 33
def bodyB (l : List UInt8) : List UInt8 := if negB l then l.tail else l
def setOk (l : List UInt8) : Bool := (rangesP (bodyB l)).2 && !(rangesP (bodyB l)).1.isEmpty
def setE (l : List UInt8) : El := .set (negB l) (rangesP (bodyB l)).1
def k_set : Nat × Con := (n_glob_set, fun
  | [.lf (.str s)], [] => some (Nat.ble s.size 1000000, encG (setE (bl s)) ++ [.bool (setOk (bl s))])
  | _, _ => none)
/-- The first element and its length. -/
def elem1 (vis : Bool) (g : List UInt8) : Option (El × Nat) :=
  match g with
  | [] => none
  | b :: r =>
    if vis = true ∧ visB b = false then none
    else if b = 93 then none
    else if b = 42 then
      if r.head? = some 42 then (if r.tail.head? = some 42 then none else some (.any2, 2)) else some (.any1, 1)
    else if b = 63 then some (.one, 1)
    else if b = 91 then
      if ixI r 93 < 0 then none
      else if setOk (r.take (ixI r 93).toNat) = true ∧ (vis = true → (r.take (ixI r 93).toNat).all visB = true) then some (setE (r.take (ixI r 93).toNat), (ixI r 93).toNat + 2)
      else none
    else some (.byte b, 1)
def parseN (vis : Bool) : Nat → List UInt8 → Option (List El)
  | 0, g => if g.isEmpty then some [] else none
  | n + 1, g => if g.isEmpty then some [] else match elem1 vis g with
    | none => none
    | some (e, w) => (parseN vis n (g.drop w)).map (e :: ·)
/-- The elements of a pattern; 'vis': all bytes must be from 33 to 126. -/
def parseE (vis : Bool) (g : List UInt8) : Option (List El) := parseN vis g.length g
def rightE (g : List UInt8) : Int := if 60 < g.length then 4 else if (parseE true g).isSome then 0 else 3
def k_parse : Nat × Con := (n_glob_parse, fun
  | [.lf (.str s)], [] => some (Nat.ble s.size 1000000, [.lst 40 (((parseE true (bl s)).getD []).map encG), .bool (parseE true (bl s)).isSome])
  | _, _ => none)
def k_Right : Nat × Con := (n_glob_Right, cS fun l => [.int .i64 (rightE l)])
def k_rRight : Nat × Con := (n_codesearchref02_Right, cS fun l => [.int .i64 (rightE l)])
/-- The set of the reference: at its bracket, and where it ends. -/
def rsetE (r : List UInt8) : El := if ixI r 93 < 0 then .set false [] else setE (r.take (ixI r 93).toNat)
def rsetN (r : List UInt8) (at0 : Int) : Int := if ixI r 93 < 0 then -1 else if setOk (r.take (ixI r 93).toNat) = true then at0 + 1 + ixI r 93 + 1 else -1
def elNeg : El → Bool | .set n _ => n | _ => false
def elRs : El → List (UInt8 × UInt8) | .set _ r => r | _ => []
def k_rset : Nat × Con := (n_codesearchref02_set, fun
  | [.lf (.str s), .lf (.int .i64 i)], [] => some (Nat.ble s.size 1000000 && (leI 0 i && ltI i (s.size : Int)), [.int .i64 5, .int .u8 0, .bool (elNeg (rsetE ((bl s).drop (i.toNat + 1)))), .lst 63 (encRs (elRs (rsetE ((bl s).drop (i.toNat + 1))))), .int .i64 (rsetN ((bl s).drop (i.toNat + 1)) i)])
  | _, _ => none)
def k_relems : Nat × Con := (n_codesearchref02_elems, fun
  | [.lf (.str s)], [] => some (Nat.ble s.size 1000000, [.lst 45 (((parseE false (bl s)).getD []).map encR), .bool (parseE false (bl s)).isSome])
  | _, _ => none)

/-! ### matching -/
def inRs (rs : List (UInt8 × UInt8)) (b : UInt8) : Bool := rs.any fun r => decide (r.1 ≤ b) && decide (b ≤ r.2)
def standE : El → UInt8 → Bool
  | .byte c, b => b == c
  | .one, b => b != 47
  | .set neg rs, b => b != 47 && (inRs rs b != neg)
  | _, _ => false
def starF (ok : UInt8 → Bool) (p : List UInt8) (f : Nat → Bool) : Nat → Bool
  | 0 => f 0
  | i + 1 => f (i + 1) || (starF ok p f i && ok (p.getD i 0))
def oneF (st : UInt8 → Bool) (p : List UInt8) (f : Nat → Bool) : Nat → Bool
  | 0 => false
  | i + 1 => f i && (decide (i < p.length) && st (p.getD i 0))
def stepF (e : El) (p : List UInt8) (f : Nat → Bool) : Nat → Bool := match e with
  | .any2 => starF (fun _ => true) p f
  | .any1 => starF (fun b => b != 47) p f
  | e => oneF (standE e) p f
def runF (l : List El) (p : List UInt8) (f : Nat → Bool) : Nat → Bool := l.foldl (fun f e => stepF e p f) f
def matchE (g p : List UInt8) : Bool := rightE g == 0 && runF ((parseE true g).getD []) p (fun i => i == 0) p.length
def encF (f : Nat → Bool) (n : Nat) : List (List L) := (List.range n).map fun i => [.bool (f i)]
/-- Sets as cells. -/
def inR (xs : List (List L)) (b : Int) : Bool := xs.any fun r => leI ((r.headD .any).toInt) b && leI b ((r.tail.headD .any).toInt)
def standsR (k c : Int) (nt : Bool) (xs : List (List L)) (b : Int) : Bool := if k = 0 then b == c else if k = 3 then b != 47 else b != 47 && (inR xs b != nt)
def oneR (k c : Int) (nt : Bool) (xs : List (List L)) (b : Int) : Bool := if k = 1 then b == c else if b = 47 then false else if k = 2 then true else inR xs b != nt
def k_stands : Nat × Con := (n_glob_element_stands, fun
  | [.agg [.int .i64 k, .int .u8 c, .bool nt, .lst 59 xs], .lf (.int .u8 b)], [] => some (Nat.ble xs.length 1000000, [.bool (standsR k c nt xs b)])
  | _, _ => none)
def k_one : Nat × Con := (n_codesearchref02_one, fun
  | [.agg [.int .i64 k, .int .u8 c, .bool nt, .lst 63 xs], .lf (.int .u8 b)], [] => some (Nat.ble xs.length 1000000, [.bool (oneR k c nt xs b)])
  | _, _ => none)
def rowF (xs : List (List L)) (i : Nat) : Bool := ((xs.getD i []).headD .any).toBool
def stepR (k c : Int) (nt : Bool) (xs : List (List L)) (p : List UInt8) (f : Nat → Bool) : Nat → Bool :=
  if k = 4 then starF (fun _ => true) p f else if k = 3 then starF (fun b => b != 47) p f else oneF (fun b => oneR k c nt xs (b.toNat : Int)) p f
def k_step : Nat × Con := (n_codesearchref02_step, fun
  | [.agg [.int .i64 k, .int .u8 c, .bool nt, .lst 63 xs], .lf (.str p), .lf (.lst 4 fr)], [] => some (Nat.ble xs.length 1000000 && (Nat.ble p.size 1000000 && Nat.beq fr.length (p.size + 1)), [.lst 4 (encF (stepR k c nt xs (bl p) (rowF fr)) (p.size + 1))])
  | _, _ => none)
def k_Match : Nat × Con := (n_glob_Match, fun
  | [.lf (.str g), .lf (.str p)], [] => some (Nat.ble g.size 1000000 && Nat.ble p.size 1000000, [.bool (matchE (bl g) (bl p))])
  | _, _ => none)
def k_rMatch : Nat × Con := (n_codesearchref02_Match, fun
  | [.lf (.str g), .lf (.str p)], [] => some (Nat.ble g.size 1000000 && Nat.ble p.size 1000000, [.bool (matchE (bl g) (bl p))])
  | _, _ => none)

/-! ### the beginning of a pattern -/
def spB (b : UInt8) : Bool := b == 42 || (b == 63 || b == 91)
def prefixB (g : List UInt8) : List UInt8 := g.takeWhile fun b => !spB b
def k_IndexAny : Nat × Con := (n_strings_IndexAny, fun
  | [.lf (.str s), .lf (.str t)], [] => some (Nat.ble s.size 1000000 && (bl t == [42, 63, 91]), [.int .i64 (Lib.indexAny (bl s) [42, 63, 91])])
  | _, _ => none)
/-- At a text of ASCII bytes alone. -/
def k_IndexRune : Nat × Con := (n_strings_IndexRune, fun
  | [.lf (.str s), .lf (.int .i32 c)], [] => some (bl s == [42, 63, 91], [.int .i64 (if 0 ≤ c ∧ c < 128 then ixI [42, 63, 91] c else -1)])
  | _, _ => none)
def k_Prefix : Nat × Con := (n_glob_Prefix, fun
  | [.lf (.str s)], [] => some (Nat.ble s.size 1000000, [.str (mk (prefixB (bl s)))])
  | _, _ => none)
def k_rPrefix : Nat × Con := (n_codesearchref02_Prefix, cS fun l => [.str (mk (prefixB l))])
def k_alive : Nat × Con := (n_codesearchlaw02_alive, fun
  | [], [] => some (true, [.bool true])
  | _, _ => none)
end Go.Ab
namespace Go.Ab
open Go.Proofs
def k_ValidRune : Nat × Con := (n_unicode_utf8_ValidRune, fun
  | [.lf (.int .i32 c)], [] => some (true, [.bool (Lib.validRune c)])
  | _, _ => none)
def k_useSet : Nat × Con := (n_strings_shouldUseASCIISet, fun
  | [.lf (.int .i64 n)], [] => some (true, [.bool (ltI 8 n)])
  | _, _ => none)
/-- Not asked here. -/
def k_noSet : Nat × Con := (n_strings_makeASCIISet, fun _ _ => none)
end Go.Ab
namespace Go.Ab
open Go.Proofs
/-! strings.IndexRune -/
noncomputable def IndexRune_q38 (h0s : ByteArray) (h0p : Nat) : Req := .point 44 [] (todoAt Tryd.prog 44 38) ⟨[an, an, an, an, an, an, an, an, an, an, an, an, an, an, an, an, an, an, an, an, an, an, an, an, an, an, an, an, an, an, an, an, an, an, an, an, an, an, an, an, an, an, an, an, an, an, an, an, an, an, an, an, an, an, an, an, an, an, an, an, an, an, an, an, an, an, an, an, an, an, an, an, an, an, an, an, an, an, an, an, an, an, an, an, an, an, an, an, an, an, an, an, an, an, an, an, an, an, an, an, an, an, an, an, an, an, an, an, an, an, an, an, an, an, an, an, an, an, an, an, an, an, an, an, an, an, an, an, an, an, an, an, an, an, an, an, an, an, an, an, an, an, an, an, an, an, an, an, an, an, an, an, an, an, an, an, an, an, an, an, an, an, an, an, an, an, an, an, an, an, an, an, an, an, an, (.lf (.ptr 0 0)), an, an, an, an, an, an, an, an, an, an, an], [(.iter h0s h0p)]⟩
noncomputable def IndexRune_q5 (s0 : ByteArray) (r1 : Int) (rs7 : ByteArray) (last8 : Int) (i9 : Int) (fails10 : Int) : Req := .point 44 [] (todoAt Tryd.prog 44 5) ⟨[(.lf (.str s0)), (.lf (.int IntKind.i32 r1)), an, an, an, an, an, (.lf (.str rs7)), (.lf (.int IntKind.i64 last8)), (.lf (.int IntKind.i64 i9)), (.lf (.int IntKind.i64 fails10)), an, an, an, an, an, an, an, an, an, an, an, an, an, an, an, an, an, an, an, an, an, an, an, an, an, an, an, an, an, an, an, an, an, an, an, an, an, an, an, an, an, an, an, an, an, an, an, an, an, an, an, an, an, an, an, an, an, an, an, an, an, an, an, an, an, an, an, an, an, an, an, an, an, an, an, an, an, an, an, an, an, an, an, an, an, an, an, an, an, an, an, an, an, an, an, an, an, an, an, an, an, an, an, an, an, an, an, an, an, an, an, an, an, an, an, an, an, an, an, an, an, an, an, an, an, an, an, an, an, an, an, an, an, an, an, an, an, an, an, an, an, an, an, an, an, an, an, an, an, an, an, an, an, an, an, an, an, an, an, an, an, an, an, an, an, an, an, an, an, an, an, an, an, an, an, an], []⟩
noncomputable def IndexRune_q12 (s0 : ByteArray) (r1 : Int) (rs7 : ByteArray) (last8 : Int) (i9 : Int) (fails10 : Int) (j12 : Int) : Req := .point 44 [] (todoAt Tryd.prog 44 12) ⟨[(.lf (.str s0)), (.lf (.int IntKind.i32 r1)), an, an, an, an, an, (.lf (.str rs7)), (.lf (.int IntKind.i64 last8)), (.lf (.int IntKind.i64 i9)), (.lf (.int IntKind.i64 fails10)), an, (.lf (.int IntKind.i64 j12)), an, an, an, an, an, an, an, an, an, an, an, an, an, an, an, an, an, an, an, an, an, an, an, an, an, an, an, an, an, an, an, an, an, an, an, an, an, an, an, an, an, an, an, an, an, an, an, an, an, an, an, an, an, an, an, an, an, an, an, an, an, an, an, an, an, an, an, an, an, an, an, an, an, an, an, an, an, an, an, an, an, an, an, an, an, an, an, an, an, an, an, an, an, an, an, an, an, an, an, an, an, an, an, an, an, an, an, an, an, an, an, an, an, an, an, an, an, an, an, an, an, an, an, an, an, an, an, an, an, an, an, an, an, an, an, an, an, an, an, an, an, an, an, an, an, an, an, an, an, an, an, an, an, an, an, an, an, an, an, an, an, an, an, an, an, an, an, an, an, an, an, an, an, an], []⟩
noncomputable def IndexRune_q16 (s0 : ByteArray) (r1 : Int) (rs7 : ByteArray) (last8 : Int) (i9 : Int) (fails10 : Int) : Req := .point 44 [] (todoAt Tryd.prog 44 16) ⟨[(.lf (.str s0)), (.lf (.int IntKind.i32 r1)), an, an, an, an, an, (.lf (.str rs7)), (.lf (.int IntKind.i64 last8)), (.lf (.int IntKind.i64 i9)), (.lf (.int IntKind.i64 fails10)), an, an, an, an, an, an, an, an, an, an, an, an, an, an, an, an, an, an, an, an, an, an, an, an, an, an, an, an, an, an, an, an, an, an, an, an, an, an, an, an, an, an, an, an, an, an, an, an, an, an, an, an, an, an, an, an, an, an, an, an, an, an, an, an, an, an, an, an, an, an, an, an, an, an, an, an, an, an, an, an, an, an, an, an, an, an, an, an, an, an, an, an, an, an, an, an, an, an, an, an, an, an, an, an, an, an, an, an, an, an, an, an, an, an, an, an, an, an, an, an, an, an, an, an, an, an, an, an, an, an, an, an, an, an, an, an, an, an, an, an, an, an, an, an, an, an, an, an, an, an, an, an, an, an, an, an, an, an, an, an, an, an, an, an, an, an, an, an, an, an, an, an, an, an, an, an], []⟩
theorem IndexRune_e (G : Req → R) (c1 : Int) : runB (cfg [k_IndexByte, k_ValidRune]) G (.enter 44 [(.lf (.str (mk [42, 63, 91]))), (.lf (.int IntKind.i32 (c1)))] []) =
  (cond (leI 0 c1)
   (cond (ltI c1 128)
    (some [(.int IntKind.i64 (ixI (bl (mk [42, 63, 91])) (wrapI IntKind.u8 c1)))])
    (cond (c1 == 65533)
     (G (IndexRune_q38 (mk [42, 63, 91]) 0))
     (cond (!Lib.validRune c1)
      (some [(.int IntKind.i64 (-1))])
      (G (IndexRune_q5 (mk [42, 63, 91]) c1 (Utf8.encode c1) (wrapI IntKind.i64 ((↑(ByteArray.size (Utf8.encode c1)) : Int) - 1)) (wrapI IntKind.i64 ((↑(ByteArray.size (Utf8.encode c1)) : Int) - 1)) 0)))))
   (cond (c1 == 65533)
    (G (IndexRune_q38 (mk [42, 63, 91]) 0))
    (cond (!Lib.validRune c1)
     (some [(.int IntKind.i64 (-1))])
     (G (IndexRune_q5 (mk [42, 63, 91]) c1 (Utf8.encode c1) (wrapI IntKind.i64 ((↑(ByteArray.size (Utf8.encode c1)) : Int) - 1)) (wrapI IntKind.i64 ((↑(ByteArray.size (Utf8.encode c1)) : Int) - 1)) 0))))) := by kernel_rfl
theorem IndexRune_p38 (G : Req → R) (h0s : ByteArray) (h0p : Nat) : runB (cfg [k_IndexByte, k_ValidRune]) G (IndexRune_q38 h0s h0p) =
  (cond (decide (h0p < ByteArray.size h0s))
   (cond ((↑(Prod.fst (Utf8.decode h0s h0p)) : Int) == 65533)
    (some [(.int IntKind.i64 ((↑h0p : Int)))])
    (G (IndexRune_q38 h0s (h0p + Prod.snd (Utf8.decode h0s h0p)))))
   (some [(.int IntKind.i64 (-1))])) := by kernel_rfl
theorem IndexRune_p5 (G : Req → R) (s0 : ByteArray) (r1 : Int) (rs7 : ByteArray) (last8 : Int) (i9 : Int) (fails10 : Int) : runB (cfg [k_IndexByte, k_ValidRune]) G (IndexRune_q5 s0 r1 rs7 last8 i9 fails10) =
  (cond (ltI i9 (↑(ByteArray.size s0) : Int))
   (cond (leI 0 i9 && ltI i9 (↑(ByteArray.size s0) : Int))
    (cond (leI 0 last8 && ltI last8 (↑(ByteArray.size rs7) : Int))
     (cond (byI s0 i9 != byI rs7 last8)
      (cond (leI 0 (wrapI IntKind.i64 (i9 + 1)) && leI (wrapI IntKind.i64 (i9 + 1)) (↑(ByteArray.size s0) : Int))
       (cond (leI 0 last8 && ltI last8 (↑(ByteArray.size rs7) : Int))
        (cond (Nat.ble (ByteArray.size (ByteArray.extract s0 (Int.toNat (wrapI IntKind.i64 (i9 + 1))) (ByteArray.size s0))) 1000000000000)
         (cond (ltI (ixI (bl (ByteArray.extract s0 (Int.toNat (wrapI IntKind.i64 (i9 + 1))) (ByteArray.size s0))) (byI rs7 last8)) 0)
          (some [(.int IntKind.i64 (-1))])
          (G (IndexRune_q12 s0 r1 rs7 last8 (wrapI IntKind.i64 (i9 + wrapI IntKind.i64 (ixI (bl (ByteArray.extract s0 (Int.toNat (wrapI IntKind.i64 (i9 + 1))) (ByteArray.size s0))) (byI rs7 last8) + 1))) fails10 1)))
         none)
        none)
       none)
      (G (IndexRune_q12 s0 r1 rs7 last8 i9 fails10 1)))
     none)
    none)
   (some [(.int IntKind.i64 (-1))])) := by kernel_rfl
theorem IndexRune_p12 (G : Req → R) (s0 : ByteArray) (r1 : Int) (rs7 : ByteArray) (last8 : Int) (i9 : Int) (fails10 : Int) (j12 : Int) : runB (cfg [k_IndexByte, k_ValidRune]) G (IndexRune_q12 s0 r1 rs7 last8 i9 fails10 j12) =
  (cond (ltI j12 (↑(ByteArray.size rs7) : Int))
   (cond (leI 0 (wrapI IntKind.i64 (i9 - j12)) && ltI (wrapI IntKind.i64 (i9 - j12)) (↑(ByteArray.size s0) : Int))
    (cond (leI 0 (wrapI IntKind.i64 (last8 - j12)) && ltI (wrapI IntKind.i64 (last8 - j12)) (↑(ByteArray.size rs7) : Int))
     (cond (byI s0 (wrapI IntKind.i64 (i9 - j12)) != byI rs7 (wrapI IntKind.i64 (last8 - j12)))
      (G (IndexRune_q16 s0 r1 rs7 last8 i9 fails10))
      (G (IndexRune_q12 s0 r1 rs7 last8 i9 fails10 (wrapI IntKind.i64 (j12 + 1)))))
     none)
    none)
   (some [(.int IntKind.i64 (wrapI IntKind.i64 (i9 - last8)))])) := by kernel_rfl
theorem IndexRune_p16 (G : Req → R) (s0 : ByteArray) (r1 : Int) (rs7 : ByteArray) (last8 : Int) (i9 : Int) (fails10 : Int) : runB (cfg [k_IndexByte, k_ValidRune]) G (IndexRune_q16 s0 r1 rs7 last8 i9 fails10) =
  (((G (.enter 56 [(.lf (.int IntKind.i64 (wrapI IntKind.i64 (i9 + 1))))] []))).bind fun r =>
   (cond (ltI (cI 0 r) (wrapI IntKind.i64 (fails10 + 1)))
    (cond (ltI (wrapI IntKind.i64 (i9 + 1)) (↑(ByteArray.size s0) : Int))
     (cond (leI 0 (wrapI IntKind.i64 (wrapI IntKind.i64 (i9 + 1) - last8)) && leI (wrapI IntKind.i64 (wrapI IntKind.i64 (i9 + 1) - last8)) (↑(ByteArray.size s0) : Int))
      none
      none)
     (G (IndexRune_q5 s0 r1 rs7 last8 (wrapI IntKind.i64 (i9 + 1)) (wrapI IntKind.i64 (fails10 + 1)))))
    (G (IndexRune_q5 s0 r1 rs7 last8 (wrapI IntKind.i64 (i9 + 1)) (wrapI IntKind.i64 (fails10 + 1)))))) := by kernel_rfl

/-! strings.IndexAny -/
noncomputable def IndexAny_q18 (chars1 : ByteArray) (h0s : ByteArray) (h0p : Nat) : Req := .point 31 [] (todoAt Tryd.prog 31 18) ⟨[an, (.lf (.str chars1)), an, an, an, an, an, an, an, an, an, an, an, an, an, an, an, an, an, an, an, an, an, an, an, an, an, an, an, an, an, an, an, an, an, an, an, an, an, an, an, an, an, an, an, (.lf (.ptr 0 0)), an, an, an, an, an, an, an, an, an], [(.iter h0s h0p)]⟩
theorem IndexAny_e (G : Req → R) (s0 : ByteArray) : runB (cfg [k_IndexRune, k_useSet, k_noSet]) G (.enter 31 [(.lf (.str (s0))), (.lf (.str (mk [42, 63, 91])))] []) =
  (cond (ltI 8 (↑(ByteArray.size s0) : Int))
   none
   (G (IndexAny_q18 (mk [42, 63, 91]) s0 0))) := by kernel_rfl
theorem IndexAny_p18 (G : Req → R) (chars1 : ByteArray) (h0s : ByteArray) (h0p : Nat) : runB (cfg [k_IndexRune, k_useSet, k_noSet]) G (IndexAny_q18 chars1 h0s h0p) =
  (cond (decide (h0p < ByteArray.size h0s))
   (cond (bl chars1 == [42, 63, 91])
    (cond (leI 0 (if 0 ≤ (↑(Prod.fst (Utf8.decode h0s h0p)) : Int) ∧ (↑(Prod.fst (Utf8.decode h0s h0p)) : Int) < 128 then ixI [42, 63, 91] (↑(Prod.fst (Utf8.decode h0s h0p)) : Int) else -1))
     (some [(.int IntKind.i64 ((↑h0p : Int)))])
     (G (IndexAny_q18 chars1 h0s (h0p + Prod.snd (Utf8.decode h0s h0p)))))
    none)
   (some [(.int IntKind.i64 (-1))])) := by kernel_rfl

end Go.Ab
namespace Go.Ab
open Go.Proofs
/-! strings.LastIndexByte -/
theorem LastIdx_e (G : Req → R) (s0 : ByteArray) (c1 : Int) : runB (cfg [k_LastB]) G (.enter 37 [(.lf (.str (s0))), (.lf (.int IntKind.u8 (c1)))] []) =
  (cond (Nat.ble (ByteArray.size s0) 1000000000000)
   (some [(.int IntKind.i64 (lastI (bl s0) c1))])
   none) := by kernel_rfl

/-! strings.HasPrefix -/
theorem HasPre_e (G : Req → R) (s0 : ByteArray) (prefix1 : ByteArray) : runB (cfg [k_HasPreS]) G (.enter 39 [(.lf (.str (s0))), (.lf (.str (prefix1)))] []) =
  (cond (Nat.ble (ByteArray.size s0) 1000000000000 && Nat.ble (ByteArray.size prefix1) 1000000000000)
   (some [(.bool (List.isPrefixOf (bl prefix1) (bl s0)))])
   none) := by kernel_rfl

/-! strings.Split -/
theorem Split_e (G : Req → R) (s0 : ByteArray) (sep1 : ByteArray) : runB (cfg [k_genSplit]) G (.enter 34 [(.lf (.str (s0))), (.lf (.str (sep1)))] []) =
  (cond (Nat.beq (ByteArray.size sep1) 1 && Nat.ble (ByteArray.size s0) 1000000 && true)
   (some [(.lst 9 (encS (splitB (List.getD (bl sep1) 0 0) (bl s0))))])
   none) := by kernel_rfl

/-! strings.genSplit -/
noncomputable def genSplit_q11 (s0 : ByteArray) (sep1 : ByteArray) (sepSave2 : Int) (n3 : Int) (i10 : Int) (h0 : List (List L)) : Req := .point 49 [] (todoAt Tryd.prog 49 11) ⟨[(.lf (.str s0)), (.lf (.str sep1)), (.lf (.int IntKind.i64 sepSave2)), (.lf (.int IntKind.i64 n3)), an, an, an, an, an, (.lf (.row 0)), (.lf (.int IntKind.i64 i10)), an, an, an, an, an, an, an, an, an, an, an, an, an, an, an, an, an, an, an, an, an, an, an, an, an, an, an, an, an, an, an, an, an, an, an, an, an, an, an, an, an, an, an, an, an, an, an, an, an, an, an, an, an, an, an], [(.row 9 h0 true)]⟩
theorem genSplit_e (G : Req → R) (s0 : ByteArray) (sep1 : ByteArray) (sepSave2 : Int) (n3 : Int) : runB (cfg [k_Count, k_Index]) G (.enter 49 [(.lf (.str (s0))), (.lf (.str (sep1))), (.lf (.int IntKind.i64 (sepSave2))), (.lf (.int IntKind.i64 (n3)))] []) =
  (cond (n3 == 0)
   (some [(.lst 9 [])])
   (cond (bl sep1 == bl (mk []))
    (((G (.enter 58 [(.lf (.str (s0))), (.lf (.int IntKind.i64 (n3)))] []))).bind fun r =>
     (some [(.lst 9 (cX 0 r))]))
    (cond (ltI n3 0)
     (cond (Nat.beq (ByteArray.size sep1) 1 && Nat.ble (ByteArray.size s0) 1000000000000)
      (cond (leI 0 (if wrapI IntKind.i64 ((↑(ByteArray.size s0) : Int) + 1) < wrapI IntKind.i64 ((↑(Lib.countByte (bl s0) (List.getD (bl sep1) 0 0)) : Int) + 1) then wrapI IntKind.i64 ((↑(ByteArray.size s0) : Int) + 1) else wrapI IntKind.i64 ((↑(Lib.countByte (bl s0) (List.getD (bl sep1) 0 0)) : Int) + 1)) && leI (if wrapI IntKind.i64 ((↑(ByteArray.size s0) : Int) + 1) < wrapI IntKind.i64 ((↑(Lib.countByte (bl s0) (List.getD (bl sep1) 0 0)) : Int) + 1) then wrapI IntKind.i64 ((↑(ByteArray.size s0) : Int) + 1) else wrapI IntKind.i64 ((↑(Lib.countByte (bl s0) (List.getD (bl sep1) 0 0)) : Int) + 1)) (if wrapI IntKind.i64 ((↑(ByteArray.size s0) : Int) + 1) < wrapI IntKind.i64 ((↑(Lib.countByte (bl s0) (List.getD (bl sep1) 0 0)) : Int) + 1) then wrapI IntKind.i64 ((↑(ByteArray.size s0) : Int) + 1) else wrapI IntKind.i64 ((↑(Lib.countByte (bl s0) (List.getD (bl sep1) 0 0)) : Int) + 1)) && (leI ((if wrapI IntKind.i64 ((↑(ByteArray.size s0) : Int) + 1) < wrapI IntKind.i64 ((↑(Lib.countByte (bl s0) (List.getD (bl sep1) 0 0)) : Int) + 1) then wrapI IntKind.i64 ((↑(ByteArray.size s0) : Int) + 1) else wrapI IntKind.i64 ((↑(Lib.countByte (bl s0) (List.getD (bl sep1) 0 0)) : Int) + 1)) * (↑16 : Int)) 140737488355328 && leI (if wrapI IntKind.i64 ((↑(ByteArray.size s0) : Int) + 1) < wrapI IntKind.i64 ((↑(Lib.countByte (bl s0) (List.getD (bl sep1) 0 0)) : Int) + 1) then wrapI IntKind.i64 ((↑(ByteArray.size s0) : Int) + 1) else wrapI IntKind.i64 ((↑(Lib.countByte (bl s0) (List.getD (bl sep1) 0 0)) : Int) + 1)) 140737488355328))
       (G (genSplit_q11 s0 sep1 sepSave2 (wrapI IntKind.i64 ((if wrapI IntKind.i64 ((↑(ByteArray.size s0) : Int) + 1) < wrapI IntKind.i64 ((↑(Lib.countByte (bl s0) (List.getD (bl sep1) 0 0)) : Int) + 1) then wrapI IntKind.i64 ((↑(ByteArray.size s0) : Int) + 1) else wrapI IntKind.i64 ((↑(Lib.countByte (bl s0) (List.getD (bl sep1) 0 0)) : Int) + 1)) - 1)) 0 (List.replicate (Int.toNat (if wrapI IntKind.i64 ((↑(ByteArray.size s0) : Int) + 1) < wrapI IntKind.i64 ((↑(Lib.countByte (bl s0) (List.getD (bl sep1) 0 0)) : Int) + 1) then wrapI IntKind.i64 ((↑(ByteArray.size s0) : Int) + 1) else wrapI IntKind.i64 ((↑(Lib.countByte (bl s0) (List.getD (bl sep1) 0 0)) : Int) + 1))) [L.str (mk [])])))
       none)
      none)
     (cond (leI 0 (if wrapI IntKind.i64 ((↑(ByteArray.size s0) : Int) + 1) < n3 then wrapI IntKind.i64 ((↑(ByteArray.size s0) : Int) + 1) else n3) && leI (if wrapI IntKind.i64 ((↑(ByteArray.size s0) : Int) + 1) < n3 then wrapI IntKind.i64 ((↑(ByteArray.size s0) : Int) + 1) else n3) (if wrapI IntKind.i64 ((↑(ByteArray.size s0) : Int) + 1) < n3 then wrapI IntKind.i64 ((↑(ByteArray.size s0) : Int) + 1) else n3) && (leI ((if wrapI IntKind.i64 ((↑(ByteArray.size s0) : Int) + 1) < n3 then wrapI IntKind.i64 ((↑(ByteArray.size s0) : Int) + 1) else n3) * (↑16 : Int)) 140737488355328 && leI (if wrapI IntKind.i64 ((↑(ByteArray.size s0) : Int) + 1) < n3 then wrapI IntKind.i64 ((↑(ByteArray.size s0) : Int) + 1) else n3) 140737488355328))
      (G (genSplit_q11 s0 sep1 sepSave2 (wrapI IntKind.i64 ((if wrapI IntKind.i64 ((↑(ByteArray.size s0) : Int) + 1) < n3 then wrapI IntKind.i64 ((↑(ByteArray.size s0) : Int) + 1) else n3) - 1)) 0 (List.replicate (Int.toNat (if wrapI IntKind.i64 ((↑(ByteArray.size s0) : Int) + 1) < n3 then wrapI IntKind.i64 ((↑(ByteArray.size s0) : Int) + 1) else n3)) [L.str (mk [])])))
      none)))) := by kernel_rfl
theorem genSplit_p11 (G : Req → R) (s0 : ByteArray) (sep1 : ByteArray) (sepSave2 : Int) (n3 : Int) (i10 : Int) (h0 : List (List L)) : runB (cfg [k_Count, k_Index]) G (genSplit_q11 s0 sep1 sepSave2 n3 i10 h0) =
  (cond (ltI i10 n3)
   (cond (Nat.beq (ByteArray.size sep1) 1 && Nat.ble (ByteArray.size s0) 1000000000000)
    (cond (ltI (Lib.indexByte (bl s0) (List.getD (bl sep1) 0 0)) 0)
     (cond (leI 0 i10 && ltI i10 (↑(List.length h0) : Int))
      (cond (leI 0 (wrapI IntKind.i64 (i10 + 1)) && leI (wrapI IntKind.i64 (i10 + 1)) (↑(List.length (List.set h0 (Int.toNat i10) (splice 0 [L.str s0] (atL h0 i10)))) : Int))
       (some [(.lst 9 (List.drop 0 (List.take (Int.toNat (wrapI IntKind.i64 (i10 + 1))) (List.set h0 (Int.toNat i10) (splice 0 [L.str s0] (atL h0 i10))))))])
       none)
      none)
     (cond (leI 0 (wrapI IntKind.i64 (Lib.indexByte (bl s0) (List.getD (bl sep1) 0 0) + sepSave2)) && leI (wrapI IntKind.i64 (Lib.indexByte (bl s0) (List.getD (bl sep1) 0 0) + sepSave2)) (↑(ByteArray.size s0) : Int))
      (cond (leI 0 i10 && ltI i10 (↑(List.length h0) : Int))
       (cond (leI 0 (wrapI IntKind.i64 (Lib.indexByte (bl s0) (List.getD (bl sep1) 0 0) + (↑(ByteArray.size sep1) : Int))) && leI (wrapI IntKind.i64 (Lib.indexByte (bl s0) (List.getD (bl sep1) 0 0) + (↑(ByteArray.size sep1) : Int))) (↑(ByteArray.size s0) : Int))
        (G (genSplit_q11 (ByteArray.extract s0 (Int.toNat (wrapI IntKind.i64 (Lib.indexByte (bl s0) (List.getD (bl sep1) 0 0) + (↑(ByteArray.size sep1) : Int)))) (ByteArray.size s0)) sep1 sepSave2 n3 (wrapI IntKind.i64 (i10 + 1)) (List.set h0 (Int.toNat i10) (splice 0 [L.str (ByteArray.extract s0 0 (Int.toNat (wrapI IntKind.i64 (Lib.indexByte (bl s0) (List.getD (bl sep1) 0 0) + sepSave2))))] (atL h0 i10)))))
        none)
       none)
      none))
    none)
   (cond (leI 0 i10 && ltI i10 (↑(List.length h0) : Int))
    (cond (leI 0 (wrapI IntKind.i64 (i10 + 1)) && leI (wrapI IntKind.i64 (i10 + 1)) (↑(List.length (List.set h0 (Int.toNat i10) (splice 0 [L.str s0] (atL h0 i10)))) : Int))
     (some [(.lst 9 (List.drop 0 (List.take (Int.toNat (wrapI IntKind.i64 (i10 + 1))) (List.set h0 (Int.toNat i10) (splice 0 [L.str s0] (atL h0 i10))))))])
     none)
    none)) := by kernel_rfl

/-! codesearch/glob.Base -/
theorem Base_e (G : Req → R) (p0 : ByteArray) : runB (cfg [k_LastIdx]) G (.enter 21 [(.lf (.str (p0)))] []) =
  (cond (Nat.ble (ByteArray.size p0) 1000000000000)
   (cond (leI 0 (wrapI IntKind.i64 (lastI (bl p0) 47 + 1)) && leI (wrapI IntKind.i64 (lastI (bl p0) 47 + 1)) (↑(ByteArray.size p0) : Int))
    (some [(.str (ByteArray.extract p0 (Int.toNat (wrapI IntKind.i64 (lastI (bl p0) 47 + 1))) (ByteArray.size p0)))])
    none)
   none) := by kernel_rfl

/-! codesearch/glob.Dir -/
theorem Dir_e (G : Req → R) (p0 : ByteArray) : runB (cfg [k_LastIdx]) G (.enter 23 [(.lf (.str (p0)))] []) =
  (cond (Nat.ble (ByteArray.size p0) 1000000000000)
   (cond (leI 0 (if 0 > lastI (bl p0) 47 then 0 else lastI (bl p0) 47) && leI (if 0 > lastI (bl p0) 47 then 0 else lastI (bl p0) 47) (↑(ByteArray.size p0) : Int))
    (some [(.str (ByteArray.extract p0 0 (Int.toNat (if 0 > lastI (bl p0) 47 then 0 else lastI (bl p0) 47))))])
    none)
   none) := by kernel_rfl

/-! codesearch/glob.Ext -/
theorem Ext_e (G : Req → R) (p0 : ByteArray) : runB (cfg [k_LastIdx, k_Base]) G (.enter 25 [(.lf (.str (p0)))] []) =
  (cond (Nat.ble (ByteArray.size p0) 1000000000000)
   (cond (Nat.ble (ByteArray.size (mk (baseB (bl p0)))) 1000000000000)
    (cond (ltI (lastI (bl (mk (baseB (bl p0)))) 46) 0)
     (some [(.str (mk []))])
     (cond (leI 0 (wrapI IntKind.i64 (lastI (bl (mk (baseB (bl p0)))) 46 + 1)) && leI (wrapI IntKind.i64 (lastI (bl (mk (baseB (bl p0)))) 46 + 1)) (↑(ByteArray.size (mk (baseB (bl p0)))) : Int))
      (some [(.str (ByteArray.extract (mk (baseB (bl p0))) (Int.toNat (wrapI IntKind.i64 (lastI (bl (mk (baseB (bl p0)))) 46 + 1))) (ByteArray.size (mk (baseB (bl p0))))))])
      none))
    none)
   none) := by kernel_rfl

/-! codesearch/glob.Under -/
theorem Under_e (G : Req → R) (p0 : ByteArray) (dir1 : ByteArray) : runB (cfg [k_HasPre]) G (.enter 27 [(.lf (.str (p0))), (.lf (.str (dir1)))] []) =
  (cond (bl dir1 == bl (mk []))
   (some [(.bool (true))])
   (cond (leI (↑(ByteArray.size dir1 + 1) : Int) (IntKind.max IntKind.i64))
    (cond (Nat.ble (ByteArray.size p0) 1000000000000 && Nat.ble (ByteArray.size (dir1 ++ mk [47])) 1000000000000)
     (some [(.bool (List.isPrefixOf (bl (dir1 ++ mk [47])) (bl p0)))])
     none)
    none)) := by kernel_rfl

/-! codesearch/codesearchref02.Base -/
theorem rBase_e (G : Req → R) (p0 : ByteArray) : runB (cfg [k_rlast]) G (.enter 22 [(.lf (.str (p0)))] []) =
  (cond (Nat.ble (ByteArray.size p0) 1000000000000)
   (cond (leI 0 (wrapI IntKind.i64 (lastI (bl p0) 47 + 1)) && leI (wrapI IntKind.i64 (lastI (bl p0) 47 + 1)) (↑(ByteArray.size p0) : Int))
    (some [(.str (ByteArray.extract p0 (Int.toNat (wrapI IntKind.i64 (lastI (bl p0) 47 + 1))) (ByteArray.size p0)))])
    none)
   none) := by kernel_rfl

/-! codesearch/codesearchref02.Dir -/
theorem rDir_e (G : Req → R) (p0 : ByteArray) : runB (cfg [k_rlast]) G (.enter 24 [(.lf (.str (p0)))] []) =
  (cond (Nat.ble (ByteArray.size p0) 1000000000000)
   (cond (ltI (lastI (bl p0) 47) 0)
    (some [(.str (mk []))])
    (cond (leI 0 (lastI (bl p0) 47) && leI (lastI (bl p0) 47) (↑(ByteArray.size p0) : Int))
     (some [(.str (ByteArray.extract p0 0 (Int.toNat (lastI (bl p0) 47))))])
     none))
   none) := by kernel_rfl

/-! codesearch/codesearchref02.Ext -/
theorem rExt_e (G : Req → R) (p0 : ByteArray) : runB (cfg [k_rlast, k_rBase]) G (.enter 26 [(.lf (.str (p0)))] []) =
  (cond (Nat.ble (ByteArray.size p0) 1000000000000)
   (cond (Nat.ble (ByteArray.size (mk (baseB (bl p0)))) 1000000000000)
    (cond (ltI (lastI (bl (mk (baseB (bl p0)))) 46) 0)
     (some [(.str (mk []))])
     (cond (leI 0 (wrapI IntKind.i64 (lastI (bl (mk (baseB (bl p0)))) 46 + 1)) && leI (wrapI IntKind.i64 (lastI (bl (mk (baseB (bl p0)))) 46 + 1)) (↑(ByteArray.size (mk (baseB (bl p0)))) : Int))
      (some [(.str (ByteArray.extract (mk (baseB (bl p0))) (Int.toNat (wrapI IntKind.i64 (lastI (bl (mk (baseB (bl p0)))) 46 + 1))) (ByteArray.size (mk (baseB (bl p0))))))])
      none))
    none)
   none) := by kernel_rfl

/-! codesearch/codesearchref02.Under -/
theorem rUnder_e (G : Req → R) (p0 : ByteArray) (dir1 : ByteArray) : runB (cfg []) G (.enter 28 [(.lf (.str (p0))), (.lf (.str (dir1)))] []) =
  (cond (bl dir1 == bl (mk []))
   (some [(.bool (true))])
   (cond (ltI (↑(ByteArray.size dir1) : Int) (↑(ByteArray.size p0) : Int))
    (cond (leI 0 (↑(ByteArray.size dir1) : Int) && leI (↑(ByteArray.size dir1) : Int) (↑(ByteArray.size p0) : Int))
     (cond (bl (ByteArray.extract p0 0 (Int.toNat (↑(ByteArray.size dir1) : Int))) == bl dir1)
      (cond (leI 0 (↑(ByteArray.size dir1) : Int) && ltI (↑(ByteArray.size dir1) : Int) (↑(ByteArray.size p0) : Int))
       (some [(.bool (byI p0 (↑(ByteArray.size dir1) : Int) == 47))])
       none)
      (some [(.bool (false))]))
     none)
    (some [(.bool (false))]))) := by kernel_rfl

/-! codesearch/codesearchref02.name -/
noncomputable def rname_q4 (s0 : ByteArray) (i3 : Int) : Req := .point 36 [] (todoAt Tryd.prog 36 4) ⟨[(.lf (.str s0)), an, an, (.lf (.int IntKind.i64 i3)), an, an, an, an, an, an, an, an, an, an, an, an, an, an, an, an, an, an, an, an, an, an, an, an, an, an, an, an, an, an, an, an, an, an, an, an, an, an, an, an, an, an, an, an, an, an, an, an, an, an, an, an], []⟩
theorem rname_e (G : Req → R) (s0 : ByteArray) : runB (cfg [k_rLetter, k_rDigit]) G (.enter 36 [(.lf (.str (s0)))] []) =
  (cond (ltI (↑(ByteArray.size s0) : Int) 1)
   (some [(.bool (false))])
   (cond (ltI 24 (↑(ByteArray.size s0) : Int))
    (some [(.bool (false))])
    (cond (bl s0 == bl (mk [46]))
     (some [(.bool (false))])
     (cond (bl s0 == bl (mk [46, 46]))
      (some [(.bool (false))])
      (G (rname_q4 s0 0)))))) := by kernel_rfl
theorem rname_p4 (G : Req → R) (s0 : ByteArray) (i3 : Int) : runB (cfg [k_rLetter, k_rDigit]) G (rname_q4 s0 i3) =
  (cond (ltI i3 (↑(ByteArray.size s0) : Int))
   (cond (leI 0 i3 && ltI i3 (↑(ByteArray.size s0) : Int))
    (cond (!(leI 65 (byI s0 i3) && leI (byI s0 i3) 90 || leI 97 (byI s0 i3) && leI (byI s0 i3) 122))
     (cond (leI 0 i3 && ltI i3 (↑(ByteArray.size s0) : Int))
      (cond (!(leI 48 (byI s0 i3) && leI (byI s0 i3) 57))
       (cond (leI 0 i3 && ltI i3 (↑(ByteArray.size s0) : Int))
        (cond (byI s0 i3 != 46)
         (cond (leI 0 i3 && ltI i3 (↑(ByteArray.size s0) : Int))
          (cond (byI s0 i3 != 95)
           (cond (leI 0 i3 && ltI i3 (↑(ByteArray.size s0) : Int))
            (cond (byI s0 i3 != 45)
             (some [(.bool (false))])
             (G (rname_q4 s0 (wrapI IntKind.i64 (i3 + 1)))))
            none)
           (G (rname_q4 s0 (wrapI IntKind.i64 (i3 + 1)))))
          none)
         (G (rname_q4 s0 (wrapI IntKind.i64 (i3 + 1)))))
        none)
       (G (rname_q4 s0 (wrapI IntKind.i64 (i3 + 1)))))
      none)
     (G (rname_q4 s0 (wrapI IntKind.i64 (i3 + 1)))))
    none)
   (some [(.bool (true))])) := by kernel_rfl

/-! codesearch/glob.ValidPath -/
noncomputable def ValidPath_q3 (p0 : ByteArray) : Req := .point 19 [] (todoAt Tryd.prog 19 3) ⟨[(.lf (.str p0)), an, an, an, an, an, an, an, an, an, an, an, an, an, an, an, an, an, an, an, an, an, an, an, an, an, an, an, an, an, an, an, an, an, an, an, an, an, an, an, an, an, an, an], []⟩
noncomputable def ValidPath_q4 (x10 : List (List L)) (x11 : Int) (x12 : Int) : Req := .point 19 [] (todoAt Tryd.prog 19 4) ⟨[an, an, an, an, an, an, an, an, an, an, (.lf (.lst 9 x10)), (.lf (.int IntKind.i64 x11)), (.lf (.int IntKind.i64 x12)), an, an, an, an, an, an, an, an, an, an, an, an, an, an, an, an, an, an, an, an, an, an, an, an, an, an, an, an, an, an, an], []⟩
noncomputable def ValidPath_q10 (s4 : ByteArray) (i5 : Int) (x10 : List (List L)) (x11 : Int) (x12 : Int) : Req := .point 19 [] (todoAt Tryd.prog 19 10) ⟨[an, an, an, an, (.lf (.str s4)), (.lf (.int IntKind.i64 i5)), an, an, an, an, (.lf (.lst 9 x10)), (.lf (.int IntKind.i64 x11)), (.lf (.int IntKind.i64 x12)), an, an, an, an, an, an, an, an, an, an, an, an, an, an, an, an, an, an, an, an, an, an, an, an, an, an, an, an, an, an, an], []⟩
theorem ValidPath_e (G : Req → R) (p0 : ByteArray) : runB (cfg [k_Split, k_letter]) G (.enter 19 [(.lf (.str (p0)))] []) =
  (cond (ltI 60 (↑(ByteArray.size p0) : Int))
   (some [(.bool (false))])
   (G (ValidPath_q3 p0))) := by kernel_rfl
theorem ValidPath_p3 (G : Req → R) (p0 : ByteArray) : runB (cfg [k_Split, k_letter]) G (ValidPath_q3 p0) =
  (cond (Nat.ble (ByteArray.size p0) 1000000)
   (G (ValidPath_q4 (encS (splitB (List.getD (bl (mk [47])) 0 0) (bl p0))) ((↑(List.length (encS (splitB (List.getD (bl (mk [47])) 0 0) (bl p0)))) : Int)) 0))
   none) := by kernel_rfl
theorem ValidPath_p4 (G : Req → R) (x10 : List (List L)) (x11 : Int) (x12 : Int) : runB (cfg [k_Split, k_letter]) G (ValidPath_q4 x10 x11 x12) =
  (cond (ltI x12 x11)
   (cond (leI 0 x12 && ltI x12 (↑(List.length x10) : Int))
    (cond (bl (cT 0 (atL x10 x12)) == bl (mk [46]))
     (some [(.bool (false))])
     (cond (bl (cT 0 (atL x10 x12)) == bl (mk [46, 46]))
      (some [(.bool (false))])
      (cond (ltI (↑(ByteArray.size (cT 0 (atL x10 x12))) : Int) 1)
       (some [(.bool (false))])
       (cond (ltI 24 (↑(ByteArray.size (cT 0 (atL x10 x12))) : Int))
        (some [(.bool (false))])
        (G (ValidPath_q10 (cT 0 (atL x10 x12)) 0 x10 x11 x12))))))
    none)
   (some [(.bool (true))])) := by kernel_rfl
theorem ValidPath_p10 (G : Req → R) (s4 : ByteArray) (i5 : Int) (x10 : List (List L)) (x11 : Int) (x12 : Int) : runB (cfg [k_Split, k_letter]) G (ValidPath_q10 s4 i5 x10 x11 x12) =
  (cond (i5 == (↑(ByteArray.size s4) : Int))
   (G (ValidPath_q4 x10 x11 (wrapI IntKind.i64 (x12 + 1))))
   (cond (leI 0 i5 && ltI i5 (↑(ByteArray.size s4) : Int))
    (cond (!letB (byI s4 i5))
     (some [(.bool (false))])
     (G (ValidPath_q10 s4 (wrapI IntKind.i64 (i5 + 1)) x10 x11 x12)))
    none)) := by kernel_rfl

/-! codesearch/codesearchref02.ValidPath -/
noncomputable def rValidPath_q5 (p0 : ByteArray) (begin3 : Int) (i4 : Int) : Req := .point 20 [] (todoAt Tryd.prog 20 5) ⟨[(.lf (.str p0)), an, an, (.lf (.int IntKind.i64 begin3)), (.lf (.int IntKind.i64 i4)), an, an, an, an, an, an, an, an, an, an, an, an, an, an, an, an, an, an, an, an, an, an, an, an, an, an, an], []⟩
theorem rValidPath_e (G : Req → R) (p0 : ByteArray) : runB (cfg [k_rname]) G (.enter 20 [(.lf (.str (p0)))] []) =
  (cond (ltI 60 (↑(ByteArray.size p0) : Int))
   (some [(.bool (false))])
   (G (rValidPath_q5 p0 0 0))) := by kernel_rfl
theorem rValidPath_p5 (G : Req → R) (p0 : ByteArray) (begin3 : Int) (i4 : Int) : runB (cfg [k_rname]) G (rValidPath_q5 p0 begin3 i4) =
  (cond (leI i4 (↑(ByteArray.size p0) : Int))
   (cond (i4 == (↑(ByteArray.size p0) : Int))
    (cond (leI 0 i4 && leI i4 (↑(ByteArray.size p0) : Int) && (leI 0 begin3 && leI begin3 (↑(Int.toNat i4) : Int)))
     (cond (Nat.ble (ByteArray.size (ByteArray.extract p0 (Int.toNat begin3) (Int.toNat i4))) 1000000000000)
      (cond (!nameB (bl (ByteArray.extract p0 (Int.toNat begin3) (Int.toNat i4))))
       (some [(.bool (false))])
       (G (rValidPath_q5 p0 (wrapI IntKind.i64 (i4 + 1)) (wrapI IntKind.i64 (i4 + 1)))))
      none)
     none)
    (cond (leI 0 i4 && ltI i4 (↑(ByteArray.size p0) : Int))
     (cond (byI p0 i4 == 47)
      (cond (leI 0 i4 && leI i4 (↑(ByteArray.size p0) : Int) && (leI 0 begin3 && leI begin3 (↑(Int.toNat i4) : Int)))
       (cond (Nat.ble (ByteArray.size (ByteArray.extract p0 (Int.toNat begin3) (Int.toNat i4))) 1000000000000)
        (cond (!nameB (bl (ByteArray.extract p0 (Int.toNat begin3) (Int.toNat i4))))
         (some [(.bool (false))])
         (G (rValidPath_q5 p0 (wrapI IntKind.i64 (i4 + 1)) (wrapI IntKind.i64 (i4 + 1)))))
        none)
       none)
      (G (rValidPath_q5 p0 begin3 (wrapI IntKind.i64 (i4 + 1)))))
     none))
   (some [(.bool (true))])) := by kernel_rfl

/-! codesearch/glob.Prefix -/
theorem Prefix_e (G : Req → R) (g0 : ByteArray) : runB (cfg [k_IndexAny]) G (.enter 14 [(.lf (.str (g0)))] []) =
  (cond (Nat.ble (ByteArray.size g0) 1000000 && true)
   (cond (leI 0 (Lib.indexAny (bl g0) [42, 63, 91]))
    (cond (leI 0 (Lib.indexAny (bl g0) [42, 63, 91]) && leI (Lib.indexAny (bl g0) [42, 63, 91]) (↑(ByteArray.size g0) : Int))
     (some [(.str (ByteArray.extract g0 0 (Int.toNat (Lib.indexAny (bl g0) [42, 63, 91]))))])
     none)
    (some [(.str (g0))]))
   none) := by kernel_rfl

end Go.Ab
namespace Go.Proofs
open Go.Shelf
def Tryd.lays119_ren : Go.Shelf.Ren := ⟨fun | 119 => 55 | n => n, fun | 21 => 21 | 4 => 4 | n => n, fun | n => n⟩
theorem Tryd.lays119 : Go.Proofs.Lays.n119 Tryd.prog Tryd.lays119_ren := {
  mixed := by kernel_rfl
  f119 := Tryd.func55.trans (congrArg some (by kernel_rfl))
  t4 := Tryd.underlying4
  a4 := Tryd.isAgg4
  z4 := Tryd.sizeOf4
  v4 := Tryd.zeroValue4
  t21 := Tryd.underlying21
  a21 := Tryd.isAgg21
  z21 := Tryd.sizeOf21
  v21 := Tryd.zeroValue21 }
/-- utf8.ValidRune: "ValidRune reports whether r can be legally encoded as UTF-8. Code points that are out of range or a surrogate half are illegal.": IT RETURNS 'Lib.validRune r'; the world is as it was. (LAID: no walk: one application.) -/
theorem Tryd.utf8_ValidRune (r : Int) (w : World) :
    Calls Tryd.prog 55 #[.int .i32 r] w fun e w' => e = .returned (.bool (Lib.validRune r)) ∧ w' = w := Any.utf8_ValidRune Tryd.lays119 r w
def Tryd.lays137_ren : Go.Shelf.Ren := ⟨fun | 137 => 40 | 217 => 54 | 266 => 61 | n => n, fun | 9 => 9 | 5 => 5 | 3 => 3 | n => n, fun | n => n⟩
theorem Tryd.lays137 : Go.Proofs.Lays.n137 Tryd.prog Tryd.lays137_ren := {
  mixed := by kernel_rfl
  f137 := Tryd.func40.trans (congrArg some (by kernel_rfl))
  f217 := Tryd.func54.trans (congrArg some (by kernel_rfl))
  f266 := Tryd.func61.trans (congrArg some (by kernel_rfl))
  t3 := Tryd.underlying3
  a3 := Tryd.isAgg3
  z3 := Tryd.sizeOf3
  v3 := Tryd.zeroValue3
  t5 := Tryd.underlying5
  a5 := Tryd.isAgg5
  z5 := Tryd.sizeOf5
  v5 := Tryd.zeroValue5
  t9 := Tryd.underlying9
  a9 := Tryd.isAgg9
  z9 := Tryd.sizeOf9
  v9 := Tryd.zeroValue9 }
open Go.RowKit in
/-- strings.IndexByte: "IndexByte returns the index of the first instance of c in s, or -1 if c is not present in s.": IT RETURNS 'Lib.indexByte s c'; the world is as it was. (LAID: no walk: one application.) -/
theorem Tryd.strings_IndexByte (s : ByteArray) (c : Int) (w : World) :
    Calls Tryd.prog 40 #[.string s, .int .u8 c] w fun e w' => e = .returned (.int .i64 (Lib.indexByte s.data.toList c.toNat.toUInt8)) ∧ w' = w := Any.strings_IndexByte Tryd.lays137 s c w
def Tryd.lays217_ren : Go.Shelf.Ren := ⟨fun | 217 => 54 | 266 => 61 | n => n, fun | 9 => 9 | 5 => 5 | 3 => 3 | n => n, fun | n => n⟩
theorem Tryd.lays217 : Go.Proofs.Lays.n217 Tryd.prog Tryd.lays217_ren := {
  mixed := by kernel_rfl
  f217 := Tryd.func54.trans (congrArg some (by kernel_rfl))
  f266 := Tryd.func61.trans (congrArg some (by kernel_rfl))
  t3 := Tryd.underlying3
  a3 := Tryd.isAgg3
  z3 := Tryd.sizeOf3
  v3 := Tryd.zeroValue3
  t5 := Tryd.underlying5
  a5 := Tryd.isAgg5
  z5 := Tryd.sizeOf5
  v5 := Tryd.zeroValue5
  t9 := Tryd.underlying9
  a9 := Tryd.isAgg9
  z9 := Tryd.sizeOf9
  v9 := Tryd.zeroValue9 }
open Go.RowKit Go.Lib in
/-- internal/stringslite.IndexByte (what strings.IndexByte calls): IT RETURNS 'Lib.indexByte s c'; the world is as it was. (LAID: no walk: one application.) -/
theorem Tryd.stringslite_IndexByte (s : ByteArray) (c : Int) (w : World) :
    Calls Tryd.prog 54 #[.string s, .int .u8 c] w fun e w' => e = .returned (.int .i64 (Lib.indexByte s.data.toList c.toNat.toUInt8)) ∧ w' = w := Any.stringslite_IndexByte Tryd.lays217 s c w
def Tryd.lays224_ren : Go.Shelf.Ren := ⟨fun | 224 => 56 | n => n, fun | 3 => 3 | n => n, fun | n => n⟩
theorem Tryd.lays224 : Go.Proofs.Lays.n224 Tryd.prog Tryd.lays224_ren := {
  mixed := by kernel_rfl
  f224 := Tryd.func56.trans (congrArg some (by kernel_rfl))
  t3 := Tryd.underlying3
  a3 := Tryd.isAgg3
  z3 := Tryd.sizeOf3
  v3 := Tryd.zeroValue3 }
open Go.RowKit Go.Lib in
/-- internal/bytealg.Cutover: "Cutover reports the number of failures of IndexByte we should tolerate before switching over to Index. n is the number of bytes processed so far.": on amd64: (n + 16) / 8. (LAID: no walk: one application.) -/
theorem Tryd.bytealg_Cutover (n : Int) (h0 : 0 ≤ n) (h1 : n < 4611686018427387904) (w : World) :
    Calls Tryd.prog 56 #[.int .i64 n] w fun e w' => e = .returned (.int .i64 ((n + 16) / 8)) ∧ w' = w := Any.bytealg_Cutover Tryd.lays224 n h0 h1 w
def Tryd.lays314_ren : Go.Shelf.Ren := ⟨fun | 314 => 68 | n => n, fun | 9 => 9 | 51 => 76 | 3 => 3 | 4 => 4 | 5 => 5 | 46 => 66 | n => n, fun | n => n⟩
theorem Tryd.lays314 : Go.Proofs.Lays.n314 Tryd.prog Tryd.lays314_ren := {
  mixed := by kernel_rfl
  f314 := Tryd.func68.trans (congrArg some (by kernel_rfl))
  t3 := Tryd.underlying3
  a3 := Tryd.isAgg3
  z3 := Tryd.sizeOf3
  v3 := Tryd.zeroValue3
  t4 := Tryd.underlying4
  a4 := Tryd.isAgg4
  z4 := Tryd.sizeOf4
  v4 := Tryd.zeroValue4
  t5 := Tryd.underlying5
  a5 := Tryd.isAgg5
  z5 := Tryd.sizeOf5
  v5 := Tryd.zeroValue5
  t9 := Tryd.underlying9
  a9 := Tryd.isAgg9
  z9 := Tryd.sizeOf9
  v9 := Tryd.zeroValue9
  t46 := Tryd.underlying66
  a46 := Tryd.isAgg66
  z46 := Tryd.sizeOf66
  v46 := Tryd.zeroValue66
  t51 := Tryd.underlying76
  a51 := Tryd.isAgg76
  z51 := Tryd.sizeOf76
  v51 := Tryd.zeroValue76 }
open Go.RowKit Go.Lib in
/-- hashStr: "returns the hash and the appropriate multiplicative factor for use in Rabin-Karp algorithm": THE HASH OF ALL OF sep, AND 16777619 ^ len(sep), both in uint32. (LAID: no walk: one application.) -/
theorem Tryd.bytealg_hashStr (sep : ByteArray) (hs : sep.size < 4294967281) (w : World) :
    Calls Tryd.prog 68 #[.string sep] w fun e w' => e = .returned (.tuple #[.int .u32 (RK.H sep.data.toList % 4294967296), .int .u32 (16777619 ^ sep.size % 4294967296)]) ∧ w' = w := Any.bytealg_hashStr Tryd.lays314 sep hs w
def Tryd.lays267_ren : Go.Shelf.Ren := ⟨fun | 267 => 67 | 314 => 68 | n => n, fun | 9 => 9 | 3 => 3 | 146 => 77 | 51 => 76 | 4 => 4 | 5 => 5 | 46 => 66 | n => n, fun | n => n⟩
theorem Tryd.lays267 : Go.Proofs.Lays.n267 Tryd.prog Tryd.lays267_ren := {
  mixed := by kernel_rfl
  f267 := Tryd.func67.trans (congrArg some (by kernel_rfl))
  f314 := Tryd.func68.trans (congrArg some (by kernel_rfl))
  t3 := Tryd.underlying3
  a3 := Tryd.isAgg3
  z3 := Tryd.sizeOf3
  v3 := Tryd.zeroValue3
  t4 := Tryd.underlying4
  a4 := Tryd.isAgg4
  z4 := Tryd.sizeOf4
  v4 := Tryd.zeroValue4
  t5 := Tryd.underlying5
  a5 := Tryd.isAgg5
  z5 := Tryd.sizeOf5
  v5 := Tryd.zeroValue5
  t9 := Tryd.underlying9
  a9 := Tryd.isAgg9
  z9 := Tryd.sizeOf9
  v9 := Tryd.zeroValue9
  t46 := Tryd.underlying66
  a46 := Tryd.isAgg66
  z46 := Tryd.sizeOf66
  v46 := Tryd.zeroValue66
  t51 := Tryd.underlying76
  a51 := Tryd.isAgg76
  z51 := Tryd.sizeOf76
  v51 := Tryd.zeroValue76
  t146 := Tryd.underlying77
  a146 := Tryd.isAgg77
  z146 := Tryd.sizeOf77
  v146 := Tryd.zeroValue77 }
open Go.RowKit Go.Lib in
theorem Tryd.bytealg_IndexRabinKarp (s sep : ByteArray) (h1 : 1 ≤ sep.size) (h2 : sep.size ≤ s.size) (hs : s.size < 4294967281) (w : World) :
    Calls Tryd.prog 67 #[.string s, .string sep] w fun e w' => e = .returned (.int .i64 (Lib.index s.data.toList sep.data.toList)) ∧ w' = w := Any.bytealg_IndexRabinKarp Tryd.lays267 s sep h1 h2 hs w
def Tryd.lays219_ren : Go.Shelf.Ren := ⟨fun | 219 => 65 | 217 => 54 | 225 => 57 | 224 => 56 | 267 => 67 | 266 => 61 | 314 => 68 | n => n, fun | 9 => 9 | 3 => 3 | 4 => 4 | 5 => 5 | 46 => 66 | 146 => 77 | 51 => 76 | n => n, fun | 1 => 0 | n => n⟩
theorem Tryd.lays219 : Go.Proofs.Lays.n219 Tryd.prog Tryd.lays219_ren := {
  mixed := by kernel_rfl
  f217 := Tryd.func54.trans (congrArg some (by kernel_rfl))
  f219 := Tryd.func65.trans (congrArg some (by kernel_rfl))
  f224 := Tryd.func56.trans (congrArg some (by kernel_rfl))
  f225 := Tryd.func57.trans (congrArg some (by kernel_rfl))
  f266 := Tryd.func61.trans (congrArg some (by kernel_rfl))
  f267 := Tryd.func67.trans (congrArg some (by kernel_rfl))
  f314 := Tryd.func68.trans (congrArg some (by kernel_rfl))
  t3 := Tryd.underlying3
  a3 := Tryd.isAgg3
  z3 := Tryd.sizeOf3
  v3 := Tryd.zeroValue3
  t4 := Tryd.underlying4
  a4 := Tryd.isAgg4
  z4 := Tryd.sizeOf4
  v4 := Tryd.zeroValue4
  t5 := Tryd.underlying5
  a5 := Tryd.isAgg5
  z5 := Tryd.sizeOf5
  v5 := Tryd.zeroValue5
  t9 := Tryd.underlying9
  a9 := Tryd.isAgg9
  z9 := Tryd.sizeOf9
  v9 := Tryd.zeroValue9
  t46 := Tryd.underlying66
  a46 := Tryd.isAgg66
  z46 := Tryd.sizeOf66
  v46 := Tryd.zeroValue66
  t51 := Tryd.underlying76
  a51 := Tryd.isAgg76
  z51 := Tryd.sizeOf76
  v51 := Tryd.zeroValue76
  t146 := Tryd.underlying77
  a146 := Tryd.isAgg77
  z146 := Tryd.sizeOf77
  v146 := Tryd.zeroValue77
  g1 := by kernel_rfl }
open Go.RowKit Go.Lib in
/-- internal/stringslite.Index (what strings.Index calls) AT A substr OF ONE BYTE c: IT RETURNS 'Lib.indexByte s c'; the world is as it was. (LAID: no walk: one application.) -/
theorem Tryd.stringslite_Index_one (s : ByteArray) (c : UInt8) (w : World) :
    Calls Tryd.prog 65 #[.string s, .string ⟨#[c]⟩] w fun e w' => e = .returned (.int .i64 (Lib.indexByte s.data.toList c)) ∧ w' = w := Any.stringslite_Index_one Tryd.lays219 s c w
open Go.RowKit Go.Lib in
/-- internal/stringslite.Index (what strings.Index calls) AT A substr OF WHATEVER LENGTH: IT RETURNS 'Lib.index s substr'; the world is as it was. 'm': what internal/bytealg.MaxLen holds: whatever. (LAID: no walk: one application.) -/
theorem Tryd.stringslite_Index (s sub : ByteArray) (m : Int) (w : World) (hs : s.size < 4294967281) (hm : w.cell? ⟨0, 0, none⟩ = some (.int .i64 m)) :
    Calls Tryd.prog 65 #[.string s, .string sub] w fun e w' => e = .returned (.int .i64 (Lib.index s.data.toList sub.data.toList)) ∧ w' = w := Any.stringslite_Index Tryd.lays219 s sub m w hs hm
def Tryd.lays143_ren : Go.Shelf.Ren := ⟨fun | 143 => 60 | 219 => 65 | 217 => 54 | 225 => 57 | 224 => 56 | 267 => 67 | 266 => 61 | 314 => 68 | n => n, fun | 9 => 9 | 3 => 3 | 4 => 4 | 5 => 5 | 46 => 66 | 146 => 77 | 51 => 76 | n => n, fun | 1 => 0 | n => n⟩
theorem Tryd.lays143 : Go.Proofs.Lays.n143 Tryd.prog Tryd.lays143_ren := {
  mixed := by kernel_rfl
  f143 := Tryd.func60.trans (congrArg some (by kernel_rfl))
  f217 := Tryd.func54.trans (congrArg some (by kernel_rfl))
  f219 := Tryd.func65.trans (congrArg some (by kernel_rfl))
  f224 := Tryd.func56.trans (congrArg some (by kernel_rfl))
  f225 := Tryd.func57.trans (congrArg some (by kernel_rfl))
  f266 := Tryd.func61.trans (congrArg some (by kernel_rfl))
  f267 := Tryd.func67.trans (congrArg some (by kernel_rfl))
  f314 := Tryd.func68.trans (congrArg some (by kernel_rfl))
  t3 := Tryd.underlying3
  a3 := Tryd.isAgg3
  z3 := Tryd.sizeOf3
  v3 := Tryd.zeroValue3
  t4 := Tryd.underlying4
  a4 := Tryd.isAgg4
  z4 := Tryd.sizeOf4
  v4 := Tryd.zeroValue4
  t5 := Tryd.underlying5
  a5 := Tryd.isAgg5
  z5 := Tryd.sizeOf5
  v5 := Tryd.zeroValue5
  t9 := Tryd.underlying9
  a9 := Tryd.isAgg9
  z9 := Tryd.sizeOf9
  v9 := Tryd.zeroValue9
  t46 := Tryd.underlying66
  a46 := Tryd.isAgg66
  z46 := Tryd.sizeOf66
  v46 := Tryd.zeroValue66
  t51 := Tryd.underlying76
  a51 := Tryd.isAgg76
  z51 := Tryd.sizeOf76
  v51 := Tryd.zeroValue76
  t146 := Tryd.underlying77
  a146 := Tryd.isAgg77
  z146 := Tryd.sizeOf77
  v146 := Tryd.zeroValue77
  g1 := by kernel_rfl }
open Go.RowKit Go.Lib in
/-- strings.Index: "Index returns the index of the first instance of substr in s, or -1 if substr is not present in s.": AT A substr OF ONE BYTE c: IT RETURNS 'Lib.indexByte s c'; the world is as it was. (LAID: no walk: one application.) -/
theorem Tryd.strings_Index_one (s : ByteArray) (c : UInt8) (w : World) :
    Calls Tryd.prog 60 #[.string s, .string ⟨#[c]⟩] w fun e w' => e = .returned (.int .i64 (Lib.indexByte s.data.toList c)) ∧ w' = w := Any.strings_Index_one Tryd.lays143 s c w
open Go.RowKit Go.Lib in
/-- strings.Index: "Index returns the index of the first instance of substr in s, or -1 if substr is not present in s.": IT RETURNS 'Lib.index s substr'; the world is as it was. (LAID: no walk: one application.) -/
theorem Tryd.strings_Index (s sub : ByteArray) (m : Int) (w : World) (hs : s.size < 4294967281) (hm : w.cell? ⟨0, 0, none⟩ = some (.int .i64 m)) :
    Calls Tryd.prog 60 #[.string s, .string sub] w fun e w' => e = .returned (.int .i64 (Lib.index s.data.toList sub.data.toList)) ∧ w' = w := Any.strings_Index Tryd.lays143 s sub m w hs hm
def Tryd.lays138_ren : Go.Shelf.Ren := ⟨fun | 138 => 59 | 195 => 62 | 218 => 64 | 143 => 60 | 219 => 65 | 217 => 54 | 225 => 57 | 224 => 56 | 267 => 67 | 266 => 61 | 314 => 68 | n => n, fun | 9 => 9 | 3 => 3 | 4 => 4 | 5 => 5 | 0 => 0 | 46 => 66 | 146 => 77 | 51 => 76 | n => n, fun | 1 => 0 | n => n⟩
theorem Tryd.lays138 : Go.Proofs.Lays.n138 Tryd.prog Tryd.lays138_ren := {
  mixed := by kernel_rfl
  f138 := Tryd.func59.trans (congrArg some (by kernel_rfl))
  f143 := Tryd.func60.trans (congrArg some (by kernel_rfl))
  f195 := Tryd.func62.trans (congrArg some (by kernel_rfl))
  f217 := Tryd.func54.trans (congrArg some (by kernel_rfl))
  f218 := Tryd.func64.trans (congrArg some (by kernel_rfl))
  f219 := Tryd.func65.trans (congrArg some (by kernel_rfl))
  f224 := Tryd.func56.trans (congrArg some (by kernel_rfl))
  f225 := Tryd.func57.trans (congrArg some (by kernel_rfl))
  f266 := Tryd.func61.trans (congrArg some (by kernel_rfl))
  f267 := Tryd.func67.trans (congrArg some (by kernel_rfl))
  f314 := Tryd.func68.trans (congrArg some (by kernel_rfl))
  t0 := Tryd.underlying0
  a0 := Tryd.isAgg0
  z0 := Tryd.sizeOf0
  v0 := Tryd.zeroValue0
  t3 := Tryd.underlying3
  a3 := Tryd.isAgg3
  z3 := Tryd.sizeOf3
  v3 := Tryd.zeroValue3
  t4 := Tryd.underlying4
  a4 := Tryd.isAgg4
  z4 := Tryd.sizeOf4
  v4 := Tryd.zeroValue4
  t5 := Tryd.underlying5
  a5 := Tryd.isAgg5
  z5 := Tryd.sizeOf5
  v5 := Tryd.zeroValue5
  t9 := Tryd.underlying9
  a9 := Tryd.isAgg9
  z9 := Tryd.sizeOf9
  v9 := Tryd.zeroValue9
  t46 := Tryd.underlying66
  a46 := Tryd.isAgg66
  z46 := Tryd.sizeOf66
  v46 := Tryd.zeroValue66
  t51 := Tryd.underlying76
  a51 := Tryd.isAgg76
  z51 := Tryd.sizeOf76
  v51 := Tryd.zeroValue76
  t146 := Tryd.underlying77
  a146 := Tryd.isAgg77
  z146 := Tryd.sizeOf77
  v146 := Tryd.zeroValue77
  g1 := by kernel_rfl }
open Go.RowKit Go.Lib in
/-- strings.Count AT A substr OF ONE BYTE ('hp'): "Count counts the number of non-overlapping instances of substr in s.": IT RETURNS 'Lib.countByte s (that byte)'; the world is as it was. ✋ NO CONTRACT HERE YET at an empty substr (utf8.RuneCountInString) or at a longer one (a loop over strings.Index). (LAID: no walk: one application.) -/
theorem Tryd.strings_Count_one (s : ByteArray) (c : UInt8) (w : World) :
    Calls Tryd.prog 59 #[.string s, .string ⟨#[c]⟩] w fun e w' => e = .returned (.int .i64 (Lib.countByte s.data.toList c)) ∧ w' = w := Any.strings_Count_one Tryd.lays138 s c w
open Go.RowKit Go.Lib in
/-- strings.Count AT A substr OF TWO BYTES OR MORE: "Count counts the number of non-overlapping instances of substr in s.": IT RETURNS 'Lib.count s substr'; the world is as it was. (LAID: no walk: one application.) -/
theorem Tryd.strings_Count (s sub : ByteArray) (m : Int) (w : World) (hs : s.size < 4294967281) (hm : w.cell? ⟨0, 0, none⟩ = some (.int .i64 m)) (h2 : 2 ≤ sub.size) :
    Calls Tryd.prog 59 #[.string s, .string sub] w fun e w' => e = .returned (.int .i64 (Lib.countB s sub)) ∧ w' = w := Any.strings_Count Tryd.lays138 s sub m w hs hm h2
def Tryd.laysM219_ren : Go.Shelf.Ren := ⟨fun | 219 => 65 | 217 => 54 | 225 => 57 | 224 => 56 | 267 => 67 | 266 => 61 | 314 => 68 | n => n, fun | 9 => 9 | 3 => 3 | 4 => 4 | 5 => 5 | 46 => 66 | 146 => 77 | 51 => 76 | n => n, fun | 1 => 0 | n => n⟩
theorem Tryd.laysM219 : Go.Proofs.LaysM.n219 Tryd.prog Tryd.laysM219_ren := {
  mixed := by kernel_rfl
  f217 := Tryd.func54.trans (congrArg some (by kernel_rfl))
  f219 := Tryd.func65.trans (congrArg some (by kernel_rfl))
  f224 := Tryd.func56.trans (congrArg some (by kernel_rfl))
  f225 := Tryd.func57.trans (congrArg some (by kernel_rfl))
  f266 := Tryd.func61.trans (congrArg some (by kernel_rfl))
  f267 := Tryd.func67.trans (congrArg some (by kernel_rfl))
  f314 := Tryd.func68.trans (congrArg some (by kernel_rfl))
  t3 := Tryd.underlying3
  a3 := Tryd.isAgg3
  z3 := Tryd.sizeOf3
  v3 := Tryd.zeroValue3
  t4 := Tryd.underlying4
  a4 := Tryd.isAgg4
  z4 := Tryd.sizeOf4
  v4 := Tryd.zeroValue4
  t5 := Tryd.underlying5
  a5 := Tryd.isAgg5
  z5 := Tryd.sizeOf5
  v5 := Tryd.zeroValue5
  t9 := Tryd.underlying9
  a9 := Tryd.isAgg9
  z9 := Tryd.sizeOf9
  v9 := Tryd.zeroValue9
  t46 := Tryd.underlying66
  a46 := Tryd.isAgg66
  z46 := Tryd.sizeOf66
  v46 := Tryd.zeroValue66
  t51 := Tryd.underlying76
  a51 := Tryd.isAgg76
  z51 := Tryd.sizeOf76
  v51 := Tryd.zeroValue76
  t146 := Tryd.underlying77
  a146 := Tryd.isAgg77
  z146 := Tryd.sizeOf77
  v146 := Tryd.zeroValue77
  g1 := by kernel_rfl
  i3 := by kernel_rfl
  i4 := by kernel_rfl
  i5 := by kernel_rfl
  i9 := by kernel_rfl
  i46 := by kernel_rfl
  i51 := by kernel_rfl
  i146 := by kernel_rfl
  m1 := by kernel_rfl
  s1_3 := fun w h => Go.Proofs.cell_of_shapedOpen_int (zero := #[.int .i64 0]) (t := 3) h (of_decide_eq_true (by kernel_rfl)) (by kernel_rfl) rfl (by kernel_rfl) (by kernel_rfl) Tryd.underlying3 }
open Go.RowKit Go.Lib in
theorem Tryd.stringslite_Index_shaped (s sub : ByteArray) (w : World) (h : w.ShapedOpen Tryd.prog) (hs : s.size < 4294967281) :
    Calls Tryd.prog 65 #[.string s, .string sub] w fun e w' => e = .returned (.int .i64 (Lib.index s.data.toList sub.data.toList)) ∧ w' = w := Any.stringslite_Index_shaped Tryd.laysM219 s sub w h hs
def Tryd.laysM143_ren : Go.Shelf.Ren := ⟨fun | 143 => 60 | 219 => 65 | 217 => 54 | 225 => 57 | 224 => 56 | 267 => 67 | 266 => 61 | 314 => 68 | n => n, fun | 9 => 9 | 3 => 3 | 4 => 4 | 5 => 5 | 46 => 66 | 146 => 77 | 51 => 76 | n => n, fun | 1 => 0 | n => n⟩
theorem Tryd.laysM143 : Go.Proofs.LaysM.n143 Tryd.prog Tryd.laysM143_ren := {
  mixed := by kernel_rfl
  f143 := Tryd.func60.trans (congrArg some (by kernel_rfl))
  f217 := Tryd.func54.trans (congrArg some (by kernel_rfl))
  f219 := Tryd.func65.trans (congrArg some (by kernel_rfl))
  f224 := Tryd.func56.trans (congrArg some (by kernel_rfl))
  f225 := Tryd.func57.trans (congrArg some (by kernel_rfl))
  f266 := Tryd.func61.trans (congrArg some (by kernel_rfl))
  f267 := Tryd.func67.trans (congrArg some (by kernel_rfl))
  f314 := Tryd.func68.trans (congrArg some (by kernel_rfl))
  t3 := Tryd.underlying3
  a3 := Tryd.isAgg3
  z3 := Tryd.sizeOf3
  v3 := Tryd.zeroValue3
  t4 := Tryd.underlying4
  a4 := Tryd.isAgg4
  z4 := Tryd.sizeOf4
  v4 := Tryd.zeroValue4
  t5 := Tryd.underlying5
  a5 := Tryd.isAgg5
  z5 := Tryd.sizeOf5
  v5 := Tryd.zeroValue5
  t9 := Tryd.underlying9
  a9 := Tryd.isAgg9
  z9 := Tryd.sizeOf9
  v9 := Tryd.zeroValue9
  t46 := Tryd.underlying66
  a46 := Tryd.isAgg66
  z46 := Tryd.sizeOf66
  v46 := Tryd.zeroValue66
  t51 := Tryd.underlying76
  a51 := Tryd.isAgg76
  z51 := Tryd.sizeOf76
  v51 := Tryd.zeroValue76
  t146 := Tryd.underlying77
  a146 := Tryd.isAgg77
  z146 := Tryd.sizeOf77
  v146 := Tryd.zeroValue77
  g1 := by kernel_rfl
  i3 := by kernel_rfl
  i4 := by kernel_rfl
  i5 := by kernel_rfl
  i9 := by kernel_rfl
  i46 := by kernel_rfl
  i51 := by kernel_rfl
  i146 := by kernel_rfl
  m1 := by kernel_rfl
  s1_3 := fun w h => Go.Proofs.cell_of_shapedOpen_int (zero := #[.int .i64 0]) (t := 3) h (of_decide_eq_true (by kernel_rfl)) (by kernel_rfl) rfl (by kernel_rfl) (by kernel_rfl) Tryd.underlying3 }
open Go.RowKit Go.Lib in
theorem Tryd.strings_Index_shaped (s sub : ByteArray) (w : World) (h : w.ShapedOpen Tryd.prog) (hs : s.size < 4294967281) :
    Calls Tryd.prog 60 #[.string s, .string sub] w fun e w' => e = .returned (.int .i64 (Lib.index s.data.toList sub.data.toList)) ∧ w' = w := Any.strings_Index_shaped Tryd.laysM143 s sub w h hs
def Tryd.laysM138_ren : Go.Shelf.Ren := ⟨fun | 138 => 59 | 195 => 62 | 218 => 64 | 143 => 60 | 219 => 65 | 217 => 54 | 225 => 57 | 224 => 56 | 267 => 67 | 266 => 61 | 314 => 68 | n => n, fun | 9 => 9 | 3 => 3 | 4 => 4 | 5 => 5 | 0 => 0 | 46 => 66 | 146 => 77 | 51 => 76 | n => n, fun | 1 => 0 | n => n⟩
theorem Tryd.laysM138 : Go.Proofs.LaysM.n138 Tryd.prog Tryd.laysM138_ren := {
  mixed := by kernel_rfl
  f138 := Tryd.func59.trans (congrArg some (by kernel_rfl))
  f143 := Tryd.func60.trans (congrArg some (by kernel_rfl))
  f195 := Tryd.func62.trans (congrArg some (by kernel_rfl))
  f217 := Tryd.func54.trans (congrArg some (by kernel_rfl))
  f218 := Tryd.func64.trans (congrArg some (by kernel_rfl))
  f219 := Tryd.func65.trans (congrArg some (by kernel_rfl))
  f224 := Tryd.func56.trans (congrArg some (by kernel_rfl))
  f225 := Tryd.func57.trans (congrArg some (by kernel_rfl))
  f266 := Tryd.func61.trans (congrArg some (by kernel_rfl))
  f267 := Tryd.func67.trans (congrArg some (by kernel_rfl))
  f314 := Tryd.func68.trans (congrArg some (by kernel_rfl))
  t0 := Tryd.underlying0
  a0 := Tryd.isAgg0
  z0 := Tryd.sizeOf0
  v0 := Tryd.zeroValue0
  t3 := Tryd.underlying3
  a3 := Tryd.isAgg3
  z3 := Tryd.sizeOf3
  v3 := Tryd.zeroValue3
  t4 := Tryd.underlying4
  a4 := Tryd.isAgg4
  z4 := Tryd.sizeOf4
  v4 := Tryd.zeroValue4
  t5 := Tryd.underlying5
  a5 := Tryd.isAgg5
  z5 := Tryd.sizeOf5
  v5 := Tryd.zeroValue5
  t9 := Tryd.underlying9
  a9 := Tryd.isAgg9
  z9 := Tryd.sizeOf9
  v9 := Tryd.zeroValue9
  t46 := Tryd.underlying66
  a46 := Tryd.isAgg66
  z46 := Tryd.sizeOf66
  v46 := Tryd.zeroValue66
  t51 := Tryd.underlying76
  a51 := Tryd.isAgg76
  z51 := Tryd.sizeOf76
  v51 := Tryd.zeroValue76
  t146 := Tryd.underlying77
  a146 := Tryd.isAgg77
  z146 := Tryd.sizeOf77
  v146 := Tryd.zeroValue77
  g1 := by kernel_rfl
  i0 := by kernel_rfl
  i3 := by kernel_rfl
  i4 := by kernel_rfl
  i5 := by kernel_rfl
  i9 := by kernel_rfl
  i46 := by kernel_rfl
  i51 := by kernel_rfl
  i146 := by kernel_rfl
  m1 := by kernel_rfl
  s1_3 := fun w h => Go.Proofs.cell_of_shapedOpen_int (zero := #[.int .i64 0]) (t := 3) h (of_decide_eq_true (by kernel_rfl)) (by kernel_rfl) rfl (by kernel_rfl) (by kernel_rfl) Tryd.underlying3 }
open Go.RowKit Go.Lib in
theorem Tryd.strings_Count_shaped (s sub : ByteArray) (w : World) (h : w.ShapedOpen Tryd.prog) (hs : s.size < 4294967281) (h2 : 2 ≤ sub.size) :
    Calls Tryd.prog 59 #[.string s, .string sub] w fun e w' => e = .returned (.int .i64 (Lib.countB s sub)) ∧ w' = w := Any.strings_Count_shaped Tryd.laysM138 s sub w h hs h2
def Tryd.lays152_ren : Go.Shelf.Ren := ⟨fun | 152 => 44 | 137 => 40 | 119 => 55 | 224 => 56 | 225 => 57 | 217 => 54 | 266 => 61 | n => n, fun | 9 => 9 | 21 => 21 | 3 => 3 | 4 => 4 | 5 => 5 | 0 => 0 | 46 => 66 | n => n, fun | n => n⟩
theorem Tryd.lays152 : Go.Proofs.Lays.n152 Tryd.prog Tryd.lays152_ren := {
  mixed := by kernel_rfl
  f119 := Tryd.func55.trans (congrArg some (by kernel_rfl))
  f137 := Tryd.func40.trans (congrArg some (by kernel_rfl))
  f152 := Tryd.func44.trans (congrArg some (by kernel_rfl))
  f217 := Tryd.func54.trans (congrArg some (by kernel_rfl))
  f224 := Tryd.func56.trans (congrArg some (by kernel_rfl))
  f225 := Tryd.func57.trans (congrArg some (by kernel_rfl))
  f266 := Tryd.func61.trans (congrArg some (by kernel_rfl))
  t0 := Tryd.underlying0
  a0 := Tryd.isAgg0
  z0 := Tryd.sizeOf0
  v0 := Tryd.zeroValue0
  t3 := Tryd.underlying3
  a3 := Tryd.isAgg3
  z3 := Tryd.sizeOf3
  v3 := Tryd.zeroValue3
  t4 := Tryd.underlying4
  a4 := Tryd.isAgg4
  z4 := Tryd.sizeOf4
  v4 := Tryd.zeroValue4
  t5 := Tryd.underlying5
  a5 := Tryd.isAgg5
  z5 := Tryd.sizeOf5
  v5 := Tryd.zeroValue5
  t9 := Tryd.underlying9
  a9 := Tryd.isAgg9
  z9 := Tryd.sizeOf9
  v9 := Tryd.zeroValue9
  t21 := Tryd.underlying21
  a21 := Tryd.isAgg21
  z21 := Tryd.sizeOf21
  v21 := Tryd.zeroValue21
  t46 := Tryd.underlying66
  a46 := Tryd.isAgg66
  z46 := Tryd.sizeOf66
  v46 := Tryd.zeroValue66 }
open Go.RowKit Go.Lib in
theorem Tryd.strings_IndexRune_ascii (s : ByteArray) (r : Int) (w : World) (h0 : 0 ≤ r) (h1 : r < 128) :
    Calls Tryd.prog 44 #[.string s, .int .i32 r] w fun e w' => e = .returned (.int .i64 (Lib.indexByte s.data.toList r.toNat.toUInt8)) ∧ w' = w := Any.strings_IndexRune_ascii Tryd.lays152 s r w h0 h1
def Tryd.lays226_ren : Go.Shelf.Ren := ⟨fun | 226 => 45 | n => n, fun | 3 => 3 | 4 => 4 | n => n, fun | n => n⟩
theorem Tryd.lays226 : Go.Proofs.Lays.n226 Tryd.prog Tryd.lays226_ren := {
  mixed := by kernel_rfl
  f226 := Tryd.func45.trans (congrArg some (by kernel_rfl))
  t3 := Tryd.underlying3
  a3 := Tryd.isAgg3
  z3 := Tryd.sizeOf3
  v3 := Tryd.zeroValue3
  t4 := Tryd.underlying4
  a4 := Tryd.isAgg4
  z4 := Tryd.sizeOf4
  v4 := Tryd.zeroValue4 }
open Go.RowKit Go.Lib in
theorem Tryd.strings_shouldUseASCIISet (n : Int) (w : World) :
    Calls Tryd.prog 45 #[.int .i64 n] w fun e w' => e = .returned (.bool (decide (8 < n))) ∧ w' = w := Any.strings_shouldUseASCIISet Tryd.lays226 n w
def Tryd.lays153_ren : Go.Shelf.Ren := ⟨fun | 153 => 31 | 152 => 44 | 226 => 45 | 227 => 46 | 228 => 47 | 137 => 40 | 119 => 55 | 224 => 56 | 225 => 57 | 217 => 54 | 266 => 61 | n => n, fun | 9 => 9 | 3 => 3 | 4 => 4 | 5 => 5 | 21 => 21 | 117 => 57 | 116 => 56 | 0 => 0 | 46 => 66 | 124 => 67 | n => n, fun | n => n⟩
theorem Tryd.lays153 : Go.Proofs.Lays.n153 Tryd.prog Tryd.lays153_ren := {
  mixed := by kernel_rfl
  f119 := Tryd.func55.trans (congrArg some (by kernel_rfl))
  f137 := Tryd.func40.trans (congrArg some (by kernel_rfl))
  f152 := Tryd.func44.trans (congrArg some (by kernel_rfl))
  f153 := Tryd.func31.trans (congrArg some (by kernel_rfl))
  f217 := Tryd.func54.trans (congrArg some (by kernel_rfl))
  f224 := Tryd.func56.trans (congrArg some (by kernel_rfl))
  f225 := Tryd.func57.trans (congrArg some (by kernel_rfl))
  f226 := Tryd.func45.trans (congrArg some (by kernel_rfl))
  f227 := Tryd.func46.trans (congrArg some (by kernel_rfl))
  f228 := Tryd.func47.trans (congrArg some (by kernel_rfl))
  f266 := Tryd.func61.trans (congrArg some (by kernel_rfl))
  t0 := Tryd.underlying0
  a0 := Tryd.isAgg0
  z0 := Tryd.sizeOf0
  v0 := Tryd.zeroValue0
  t3 := Tryd.underlying3
  a3 := Tryd.isAgg3
  z3 := Tryd.sizeOf3
  v3 := Tryd.zeroValue3
  t4 := Tryd.underlying4
  a4 := Tryd.isAgg4
  z4 := Tryd.sizeOf4
  v4 := Tryd.zeroValue4
  t5 := Tryd.underlying5
  a5 := Tryd.isAgg5
  z5 := Tryd.sizeOf5
  v5 := Tryd.zeroValue5
  t9 := Tryd.underlying9
  a9 := Tryd.isAgg9
  z9 := Tryd.sizeOf9
  v9 := Tryd.zeroValue9
  t21 := Tryd.underlying21
  a21 := Tryd.isAgg21
  z21 := Tryd.sizeOf21
  v21 := Tryd.zeroValue21
  t46 := Tryd.underlying66
  a46 := Tryd.isAgg66
  z46 := Tryd.sizeOf66
  v46 := Tryd.zeroValue66
  t116 := Tryd.underlying56
  a116 := Tryd.isAgg56
  z116 := Tryd.sizeOf56
  t117 := Tryd.underlying57
  a117 := Tryd.isAgg57
  z117 := Tryd.sizeOf57
  v117 := Tryd.zeroValue57
  t124 := Tryd.underlying67
  a124 := Tryd.isAgg67
  z124 := Tryd.sizeOf67
  v124 := Tryd.zeroValue67 }
open Go.RowKit Go.Lib in
/-- chars is empty. (LAID: no walk: one application.) -/
theorem Tryd.strings_IndexAny_none (s chars : ByteArray) (w : World) (h0 : chars.size = 0) :
    Calls Tryd.prog 31 #[.string s, .string chars] w fun e w' => e = .returned (.int .i64 (Lib.indexAny s.data.toList chars.data.toList)) ∧ w' = w := Any.strings_IndexAny_none Tryd.lays153 s chars w h0
open Go.RowKit Go.Lib in
/-- chars is one ASCII byte. (LAID: no walk: one application.) -/
theorem Tryd.strings_IndexAny_one (s chars : ByteArray) (w : World) (h1 : chars.size = 1) (hascii : ∀ (j : Nat) b, chars.data.toList[j]? = some b → b.toNat < 128) :
    Calls Tryd.prog 31 #[.string s, .string chars] w fun e w' => e = .returned (.int .i64 (Lib.indexAny s.data.toList chars.data.toList)) ∧ w' = w := Any.strings_IndexAny_one Tryd.lays153 s chars w h1 hascii
open Go.RowKit Go.Lib in
/-- s of at most 8 bytes; chars of two or more: 'for i, c := range s { if IndexRune(chars, c) >= 0 { return i } }'. One block more: the model's iterator over s. (LAID: no walk: one application.) -/
theorem Tryd.strings_IndexAny_short (s chars : ByteArray) (w : World) (h2 : 2 ≤ chars.size) (h8 : s.size ≤ 8) (hascii : ∀ (j : Nat) b, s.data.toList[j]? = some b → b.toNat < 128) :
    Calls Tryd.prog 31 #[.string s, .string chars] w fun e w' => e = .returned (.int .i64 (Lib.indexAny s.data.toList chars.data.toList)) ∧ ∃ pos, w' = w.iter s pos := Any.strings_IndexAny_short Tryd.lays153 s chars w h2 h8 hascii
def Tryd.lays227_ren : Go.Shelf.Ren := ⟨fun | 227 => 46 | n => n, fun | 9 => 9 | 116 => 56 | 4 => 4 | 0 => 0 | 3 => 3 | 5 => 5 | n => n, fun | n => n⟩
theorem Tryd.lays227 : Go.Proofs.Lays.n227 Tryd.prog Tryd.lays227_ren := {
  mixed := by kernel_rfl
  f227 := Tryd.func46.trans (congrArg some (by kernel_rfl))
  t0 := Tryd.underlying0
  a0 := Tryd.isAgg0
  z0 := Tryd.sizeOf0
  v0 := Tryd.zeroValue0
  t3 := Tryd.underlying3
  a3 := Tryd.isAgg3
  z3 := Tryd.sizeOf3
  v3 := Tryd.zeroValue3
  t4 := Tryd.underlying4
  a4 := Tryd.isAgg4
  z4 := Tryd.sizeOf4
  v4 := Tryd.zeroValue4
  t5 := Tryd.underlying5
  a5 := Tryd.isAgg5
  z5 := Tryd.sizeOf5
  v5 := Tryd.zeroValue5
  t9 := Tryd.underlying9
  a9 := Tryd.isAgg9
  z9 := Tryd.sizeOf9
  v9 := Tryd.zeroValue9
  t116 := Tryd.underlying56
  a116 := Tryd.isAgg56
  z116 := Tryd.sizeOf56 }
open Go.RowKit Go.Lib in
theorem Tryd.strings_makeASCIISet (hv116 : ∀ w, (zeroValue 56).run Tryd.prog w = .ok (.agg (Array.replicate 256 (.bool false))) w) (chars : ByteArray) (w : World) (hs : chars.size < 4294967281) (hascii : ∀ (j : Nat) b, chars.data.toList[j]? = some b → b.toNat < 128) :
    Calls Tryd.prog 46 #[.string chars] w fun e w' => e = .returned (.tuple #[.agg (Lib.setCells chars.data.toList), .bool true]) ∧ w' = w.alloc (.cells (Lib.setCells chars.data.toList) 56) := Any.strings_makeASCIISet Tryd.lays227 hv116 (by kernel_rfl) chars w hs hascii
def Tryd.lays228_ren : Go.Shelf.Ren := ⟨fun | 228 => 47 | n => n, fun | 124 => 67 | 5 => 5 | 4 => 4 | 0 => 0 | 116 => 56 | n => n, fun | n => n⟩
theorem Tryd.lays228 : Go.Proofs.Lays.n228 Tryd.prog Tryd.lays228_ren := {
  mixed := by kernel_rfl
  f228 := Tryd.func47.trans (congrArg some (by kernel_rfl))
  t0 := Tryd.underlying0
  a0 := Tryd.isAgg0
  z0 := Tryd.sizeOf0
  v0 := Tryd.zeroValue0
  t4 := Tryd.underlying4
  a4 := Tryd.isAgg4
  z4 := Tryd.sizeOf4
  v4 := Tryd.zeroValue4
  t5 := Tryd.underlying5
  a5 := Tryd.isAgg5
  z5 := Tryd.sizeOf5
  v5 := Tryd.zeroValue5
  t116 := Tryd.underlying56
  a116 := Tryd.isAgg56
  z116 := Tryd.sizeOf56
  t124 := Tryd.underlying67
  a124 := Tryd.isAgg67
  z124 := Tryd.sizeOf67
  v124 := Tryd.zeroValue67 }
open Go.RowKit Go.Lib in
/-- '(as *asciiSet) contains(c)': 'as[c]': the set lies at block b, whole. (LAID: no walk: one application.) -/
theorem Tryd.asciiSet_contains (b : Nat) (x : UInt8) (v : Bool) (w : World) (hc : w.cell? ⟨b, x.toNat, none⟩ = some (.bool v)) :
    Calls Tryd.prog 47 #[.pointer (some ⟨b, 0, none⟩), .int .u8 x.toNat] w fun e w' => e = .returned (.bool v) ∧ w' = w := Any.asciiSet_contains Tryd.lays228 b x v w hc
open Go.RowKit Go.Lib in
theorem Tryd.strings_IndexAny_long (hv116 : ∀ w, (zeroValue 56).run Tryd.prog w = .ok (.agg (Array.replicate 256 (.bool false))) w) (s chars : ByteArray) (w : World) (h2 : 2 ≤ chars.size) (h8 : 8 < s.size) (hs : s.size < 4294967281) (hcs : chars.size < 4294967281) (hascii : ∀ (j : Nat) b, chars.data.toList[j]? = some b → b.toNat < 128) :
    Calls Tryd.prog 31 #[.string s, .string chars] w fun e w' => e = .returned (.int .i64 (Lib.indexAny s.data.toList chars.data.toList)) ∧ w' = ((w.alloc (.cells (Lib.setCells chars.data.toList) 56)).alloc (.cells (Lib.setCells chars.data.toList) 56)) := Any.strings_IndexAny_long Tryd.lays153 hv116 (by kernel_rfl) s chars w h2 h8 hs hcs hascii
open Go.RowKit Go.Lib in
/-- strings.IndexAny ON ASCII BYTES: the four roads under one statement. (LAID: no walk: one application.) -/
theorem Tryd.strings_IndexAny (hv116 : ∀ w, (zeroValue 56).run Tryd.prog w = .ok (.agg (Array.replicate 256 (.bool false))) w) (s chars : ByteArray) (w : World) (hs : s.size < 4294967281) (hcs : chars.size < 4294967281) (has : ∀ (j : Nat) b, s.data.toList[j]? = some b → b.toNat < 128) (hac : ∀ (j : Nat) b, chars.data.toList[j]? = some b → b.toNat < 128) :
    Calls Tryd.prog 31 #[.string s, .string chars] w fun e w' => e = .returned (.int .i64 (Lib.indexAny s.data.toList chars.data.toList)) ∧ Below w.heap.size w w' := Any.strings_IndexAny Tryd.lays153 hv116 (by kernel_rfl) s chars w hs hcs has hac
open Go.RowKit Go.Lib in
theorem Tryd.strings_IndexAny_laid (s chars : ByteArray) (w : World) (hs : s.size < 4294967281) (hcs : chars.size < 4294967281) (has : ∀ (j : Nat) b, s.data.toList[j]? = some b → b.toNat < 128) (hac : ∀ (j : Nat) b, chars.data.toList[j]? = some b → b.toNat < 128) :
    Calls Tryd.prog 31 #[.string s, .string chars] w fun e w' => e = .returned (.int .i64 (Lib.indexAny s.data.toList chars.data.toList)) ∧ Below w.heap.size w w' := Any.strings_IndexAny_laid Tryd.lays153 (by kernel_rfl) s chars w hs hcs has hac
def Tryd.lays260_ren : Go.Shelf.Ren := ⟨fun | 260 => 66 | n => n, fun | 9 => 9 | 21 => 21 | 3 => 3 | 4 => 4 | 5 => 5 | 119 => 72 | 0 => 0 | 46 => 66 | 139 => 75 | 138 => 74 | n => n, fun | 3 => 1 | 4 => 2 | n => n⟩
theorem Tryd.lays260 : Go.Proofs.Lays.n260 Tryd.prog Tryd.lays260_ren := {
  mixed := by kernel_rfl
  f260 := Tryd.func66.trans (congrArg some (by kernel_rfl))
  t0 := Tryd.underlying0
  a0 := Tryd.isAgg0
  z0 := Tryd.sizeOf0
  v0 := Tryd.zeroValue0
  t3 := Tryd.underlying3
  a3 := Tryd.isAgg3
  z3 := Tryd.sizeOf3
  v3 := Tryd.zeroValue3
  t4 := Tryd.underlying4
  a4 := Tryd.isAgg4
  z4 := Tryd.sizeOf4
  v4 := Tryd.zeroValue4
  t5 := Tryd.underlying5
  a5 := Tryd.isAgg5
  z5 := Tryd.sizeOf5
  v5 := Tryd.zeroValue5
  t9 := Tryd.underlying9
  a9 := Tryd.isAgg9
  z9 := Tryd.sizeOf9
  v9 := Tryd.zeroValue9
  t21 := Tryd.underlying21
  a21 := Tryd.isAgg21
  z21 := Tryd.sizeOf21
  v21 := Tryd.zeroValue21
  t46 := Tryd.underlying66
  a46 := Tryd.isAgg66
  z46 := Tryd.sizeOf66
  v46 := Tryd.zeroValue66
  t119 := Tryd.underlying72
  a119 := Tryd.isAgg72
  z119 := Tryd.sizeOf72
  t138 := Tryd.underlying74
  a138 := Tryd.isAgg74
  z138 := Tryd.sizeOf74
  v138 := Tryd.zeroValue74
  t139 := Tryd.underlying75
  a139 := Tryd.isAgg75
  z139 := Tryd.sizeOf75
  v139 := Tryd.zeroValue75
  g3 := by kernel_rfl
  g4 := by kernel_rfl }
open Go.RowKit Go.Lib in
theorem Tryd.utf8_decodeRuneInStringSlow (s : ByteArray) (w : World) (hT : Lib.Utf8Tabs 1 2 w) :
    Calls Tryd.prog 66 #[.string s] w fun e w' => e = .returned (.tuple #[.int .i32 (Lib.decodeGo s).1, .int .i64 (Lib.decodeGo s).2]) ∧ Below w.heap.size w w' := Any.utf8_decodeRuneInStringSlow Tryd.lays260 s w hT
end Go.Proofs
namespace Go.Ab
open Go.Proofs

/-! ### the library -/
theorem arr2 {vs : Array Value} {a b : Value} (h : vs.toList = [a, b]) : vs = #[a, b] := by rw [← Array.toArray_toList (xs := vs), h]
theorem args_si {C : Cfg} {w : World} {fz : Fz} {ρ : Rho} {vs : Array Value} {s : ByteArray} {k : IntKind} {c : Int} (h : RepDs (Rep C.P w fz ρ) vs.toList [.lf (.str s), .lf (.int k c)]) : vs = #[.string s, .int k c] := by
  match hv : vs.toList, h with
  | [a, b], h =>
    simp only [RepDs, RepD] at h
    obtain ⟨h1, h2, _⟩ := h
    rw [arr2 hv, rep_str h1, rep_int h2]
theorem args_ss {C : Cfg} {w : World} {fz : Fz} {ρ : Rho} {vs : Array Value} {s t : ByteArray} (h : RepDs (Rep C.P w fz ρ) vs.toList [.lf (.str s), .lf (.str t)]) : vs = #[.string s, .string t] := by
  match hv : vs.toList, h with
  | [a, b], h =>
    simp only [RepDs, RepD] at h
    obtain ⟨h1, h2, _⟩ := h
    rw [arr2 hv, rep_str h1, rep_str h2]
theorem IndexByte_holds : Holds k_IndexByte := extFor_plain (C := cfg []) (fn := Tryd.f40) (t := 3) (k := .int .i64) Tryd.func40 rfl (by kernel_rfl) (by kernel_rfl) (by simp) fun aa hp r h => by
  simp only [k_IndexByte, cSB] at h
  split at h
  case h_2 => cases h
  rename_i s c
  obtain ⟨_, rfl⟩ := xo h
  refine ⟨_, rfl, rfl, ⟨_, rfl⟩, fun w fz ρ vs ha => ⟨_, .int _ _, ?_⟩⟩
  rw [args_si ha]
  exact Tryd.strings_IndexByte s c w
theorem IndexByteS_holds : Holds k_IndexByteS := extFor_plain (C := cfg []) (fn := Tryd.f54) (t := 3) (k := .int .i64) Tryd.func54 rfl (by kernel_rfl) (by kernel_rfl) (by simp) fun aa hp r h => by
  simp only [k_IndexByteS, cSB] at h
  split at h
  case h_2 => cases h
  rename_i s c
  obtain ⟨_, rfl⟩ := xo h
  refine ⟨_, rfl, rfl, ⟨_, rfl⟩, fun w fz ρ vs ha => ⟨_, .int _ _, ?_⟩⟩
  rw [args_si ha]
  exact Tryd.stringslite_IndexByte s c w
theorem one_byte {t : ByteArray} (h : t.size = 1) : t = ⟨#[(bl t).getD 0 0]⟩ := by
  obtain ⟨⟨l⟩⟩ := t
  match l, h with
  | [x], _ => rfl
theorem Count_holds : Holds k_Count := extFor_plain (C := cfg []) (fn := Tryd.f59) (t := 3) (k := .int .i64) Tryd.func59 rfl (by kernel_rfl) (by kernel_rfl) (by simp) fun aa hp r h => by
  simp only [k_Count] at h
  split at h
  case h_2 => cases h
  rename_i s t
  obtain ⟨g, rfl⟩ := xo h
  simp only [Bool.and_eq_true] at g
  refine ⟨_, rfl, rfl, ⟨_, rfl⟩, fun w fz ρ vs ha => ⟨_, .int _ _, ?_⟩⟩
  rw [args_ss ha]
  have := Tryd.strings_Count_one s ((bl t).getD 0 0) w
  rwa [← one_byte (Nat.eq_of_beq_eq_true g.1)] at this
theorem Index_holds : Holds k_Index := extFor_plain (C := cfg []) (fn := Tryd.f60) (t := 3) (k := .int .i64) Tryd.func60 rfl (by kernel_rfl) (by kernel_rfl) (by simp) fun aa hp r h => by
  simp only [k_Index] at h
  split at h
  case h_2 => cases h
  rename_i s t
  obtain ⟨g, rfl⟩ := xo h
  simp only [Bool.and_eq_true] at g
  refine ⟨_, rfl, rfl, ⟨_, rfl⟩, fun w fz ρ vs ha => ⟨_, .int _ _, ?_⟩⟩
  rw [args_ss ha]
  have := Tryd.strings_Index_one s ((bl t).getD 0 0) w
  rwa [← one_byte (Nat.eq_of_beq_eq_true g.1)] at this

theorem LastIdx_holds : Holds k_LastIdx := cSB_of (xs := [k_LastB]) (hold1 LastB_holds hold0) fun l c hl => by
  refine Runs.by (LastIdx_e · _ _) ?_
  simp (disch := omega) only [size_mk, bl_mk, ev_blt, cond_true]
  exact .ret
theorem HasPre_holds : Holds k_HasPre := cSS_of (xs := [k_HasPreS]) (hold1 HasPreS_holds hold0) fun l m hl hm => by
  refine Runs.by (HasPre_e · _ _) ?_
  simp (disch := omega) only [size_mk, bl_mk, ev_blt, cond_true, Bool.and_self]
  exact .ret

/-! ### splitting -/
theorem indexByte_cases (l : List UInt8) (c : UInt8) : (Lib.indexByte l c = -1 ∧ l.count c = 0 ∧ splitB c l = [l]) ∨
    ∃ m, m < l.length ∧ Lib.indexByte l c = (m : Int) ∧ (∀ b ∈ l.take m, b ≠ c) ∧ l[m]? = some c ∧ l.count c = (l.drop (m + 1)).count c + 1 ∧ splitB c l = l.take m :: splitB c (l.drop (m + 1)) := by
  induction l with
  | nil => left; exact ⟨rfl, rfl, rfl⟩
  | cons b l ih =>
    by_cases h : b = c
    · subst h
      right
      exact ⟨0, by simp, by simp [Lib.indexByte], by simp, by simp, by simp, by simp [splitB]⟩
    · have hb : (b == c) = false := by simpa using h
      rcases ih with ⟨h1, h2, h3⟩ | ⟨m, h0, h1, h2, h3, h4, h5⟩
      · left
        refine ⟨by simp [Lib.indexByte, hb, h1], by simp [List.count_cons, h2, hb], ?_⟩
        simp [splitB, h, h3]
      · right
        refine ⟨m + 1, by simp; try omega, ?_, ?_, by simpa using h3, ?_, ?_⟩
        · have : ((m : Int) == -1) = false := by simp
          simp [Lib.indexByte, hb, h1, this]
        · intro x hx
          simp only [List.take_succ_cons, List.mem_cons] at hx
          rcases hx with rfl | hx
          · exact h
          · exact h2 x hx
        · simp [List.count_cons, hb, h4]
        · simp [splitB, h, h5]
theorem set_cut {α : Type} {h : List α} {i : Nat} (x : α) (hi : i < h.length) : (h.set i x).take (i + 1) = h.take i ++ [x] := by
  rw [List.set_eq_take_append_cons_drop, if_pos hi, List.take_append]
  have : (h.take i).length = i := by simp; omega
  rw [this]
  simp
  rw [List.take_of_length_le (by rw [this]; omega)]
theorem splice1 {x : L} {e : List L} (h : e.length = 1) : splice 0 [x] e = [x] := by
  match e, h with
  | [y], _ => rfl
theorem atL_len {h : List (List L)} {i : Nat} (h1 : ∀ e ∈ h, e.length = 1) (hi : i < h.length) : (atL h (i : Int)).length = 1 := by
  have : atL h (i : Int) = h[i] := by unfold atL; simp [List.getD, hi]
  rw [this]; exact h1 _ (List.getElem_mem hi)
theorem set_len1 {h : List (List L)} {i : Nat} {x : L} (h1 : ∀ e ∈ h, e.length = 1) : ∀ e ∈ h.set i [x], e.length = 1 := by
  intro e he
  rcases List.mem_or_eq_of_mem_set he with h | h
  · exact h1 e h
  · rw [h]; rfl
theorem genSplit_loop (c : UInt8) (n : Nat) (hn : n ≤ 1000000) : ∀ k (l : List UInt8) i (h : List (List L)), l.count c = k → l.length ≤ 1000000 → i + k = n → n < h.length → h.length ≤ 2000000 → (∀ e ∈ h, e.length = 1) →
    Runs (cfg [k_Count, k_Index]) (genSplit_q11 (mk l) (mk [c]) 0 (n : Int) (i : Int) h) [.lst 9 (h.take i ++ encS (splitB c l))]
  | k, l, i, h, hk, hl, hi, hh, hH, h1 => by
    refine Runs.by (genSplit_p11 · _ _ _ _ _ _) ?_
    have hg : List.getD (bl (mk [c])) 0 0 = c := rfl
    have hsl := splice1 (x := .str (mk l)) (atL_len h1 (show i < h.length by omega))
    have hbeq : Nat.beq 1 1 = true := rfl
    have e1 : ((i : Int) + 1).toNat = i + 1 := by omega
    simp (disch := omega) only [size_mk, List.length_cons, List.length_nil, hbeq, Nat.zero_add, hg, bl_mk, ev_blt, w64, Bool.and_self, cond_true, hsl, List.length_set, ev_le_t, ev_lt_t, Int.toNat_natCast, e1, List.drop_zero, set_cut _ (show i < h.length by omega)]
    have last : l.count c = 0 → splitB c l = [l] := fun h0 => by
      rcases indexByte_cases l c with ⟨_, _, h3⟩ | ⟨m, _, _, _, _, h4, _⟩
      · exact h3
      · omega
    by_cases hin : i = n
    · simp (disch := omega) only [ev_lt_f, cond_false]
      rw [last (by omega)]
      exact .ret
    · simp (disch := omega) only [ev_lt_t, cond_true]
      rcases indexByte_cases l c with ⟨h2, h3, h4⟩ | ⟨m, h2, h3, h4, h5, h6, h7⟩
      · omega
      · rw [h3, h7]
        have hsl2 := splice1 (x := .str (mk (l.take m))) (atL_len h1 (show i < h.length by omega))
        have e2 : ((m : Int) + 1).toNat = m + 1 := by omega
        simp (disch := omega) only [ev_lt_f, cond_false, Int.add_zero, w64, ev_le_t, Bool.and_self, cond_true, Int.toNat_natCast, ext_mk, List.drop_zero, hsl2, Int.natCast_one, e2, List.take_length]
        have ih := genSplit_loop c n hn (k - 1) (l.drop (m + 1)) (i + 1) (h.set i [.str (mk (l.take m))]) (by omega) (by simp; omega) (by omega) (by simpa using hh) (by simpa using hH) (set_len1 h1)
        rw [set_cut _ (show i < h.length by omega), List.append_assoc] at ih
        exact .go ih
  termination_by k => k
  decreasing_by omega
theorem genSplit_holds : Holds k_genSplit := con_run (xs := [k_Count, k_Index]) (hold1 Count_holds (hold1 Index_holds hold0)) fun aa hp r h => by
  split at h
  case h_2 => cases h
  rename_i s t z n
  obtain ⟨g, rfl⟩ := xo h
  simp only [Bool.and_eq_true, beq_iff_eq, Nat.ble_eq] at g
  obtain ⟨⟨g1, g2⟩, rfl, rfl⟩ := g
  obtain ⟨l, rfl⟩ := str_cases s
  have ht : t = mk [(bl t).getD 0 0] := one_byte (Nat.eq_of_beq_eq_true g1)
  generalize (bl t).getD 0 0 = c at ht
  subst ht
  refine Runs.by (genSplit_e · _ _ _ _) ?_
  rw [size_mk] at g2
  have hg : List.getD (bl (mk [c])) 0 0 = c := rfl
  have hbeq : Nat.beq 1 1 = true := rfl
  have hc : l.count c ≤ l.length := List.count_le_length
  have hne : ([c] == ([] : List UInt8)) = false := rfl
  have hm : (if (l.length : Int) + 1 < (l.count c : Int) + 1 then (l.length : Int) + 1 else (l.count c : Int) + 1) = (l.count c : Int) + 1 := if_neg (by omega)
  have e1 : ((l.count c : Int) + 1 - 1) = (l.count c : Int) := by omega
  have e2 : ((l.count c : Int) + 1).toNat = l.count c + 1 := by omega
  have hmax : IntKind.i64.max = 9223372036854775807 := by decide
  simp (disch := omega) only [size_mk, toL_mk, hne, List.length_cons, List.length_nil, hbeq, Nat.zero_add, hg, bl_mk, ev_blt, w64, Bool.and_self, cond_true, cond_false, ev_eq_f, ev_lt_t, ev_le_t, Lib.countByte, hm, e1, e2]
  have := genSplit_loop c (l.count c) (by omega) (l.count c) l 0 (List.replicate (l.count c + 1) [.str (mk [])]) rfl g2 (by omega) (by simp) (by simp; omega) (by simp)
  exact .go this
theorem Split_holds : Holds k_Split := con_run (xs := [k_genSplit]) (hold1 genSplit_holds hold0) fun aa hp r h => by
  split at h
  case h_2 => cases h
  rename_i s t
  obtain ⟨g, rfl⟩ := xo h
  refine Runs.by (Split_e · _ _) ?_
  rw [g]
  exact .ret
end Go.Ab
namespace Go.Ab
open Go.Proofs

theorem Base_holds : Holds k_Base := cS_of (xs := [k_LastIdx]) (hold1 LastIdx_holds hold0) fun l hl => by
  refine Runs.by (Base_e · _) ?_
  have h1 := lastI_lo l 47
  have h2 := lastI_hi l 47
  simp (disch := omega) only [size_mk, bl_mk, ev_blt, cond_true, w64, ev_le_t, Bool.and_self, ext_mk, List.take_length]
  exact .ret
theorem rBase_holds : Holds k_rBase := cS_of (xs := [k_rlast]) (hold1 rlast_holds hold0) fun l hl => by
  refine Runs.by (rBase_e · _) ?_
  have h1 := lastI_lo l 47
  have h2 := lastI_hi l 47
  simp (disch := omega) only [size_mk, bl_mk, ev_blt, cond_true, w64, ev_le_t, Bool.and_self, ext_mk, List.take_length]
  exact .ret
theorem Dir_holds : Holds k_Dir := cS_of (xs := [k_LastIdx]) (hold1 LastIdx_holds hold0) fun l hl => by
  refine Runs.by (Dir_e · _) ?_
  have h1 := lastI_lo l 47
  have h2 := lastI_hi l 47
  simp (disch := omega) only [size_mk, bl_mk, ev_blt, cond_true]
  by_cases h : 0 > lastI l 47
  · have e : (lastI l 47).toNat = 0 := by omega
    simp (disch := omega) only [if_pos h, ev_le_t, Bool.and_self, cond_true, ext_mk, List.drop_zero, dirB, e]
    exact .ret
  · simp (disch := omega) only [if_neg h, ev_le_t, Bool.and_self, cond_true, ext_mk, List.drop_zero, dirB]
    exact .ret
theorem rDir_holds : Holds k_rDir := cS_of (xs := [k_rlast]) (hold1 rlast_holds hold0) fun l hl => by
  refine Runs.by (rDir_e · _) ?_
  have h1 := lastI_lo l 47
  have h2 := lastI_hi l 47
  simp (disch := omega) only [size_mk, bl_mk, ev_blt, cond_true]
  by_cases h : lastI l 47 < 0
  · have e : (lastI l 47).toNat = 0 := by omega
    simp (disch := omega) only [ev_lt_t, cond_true, dirB, e]
    exact .ret
  · simp (disch := omega) only [ev_lt_f, cond_false, ev_le_t, Bool.and_self, cond_true, ext_mk, List.drop_zero, dirB]
    exact .ret
theorem baseB_len (l : List UInt8) : (baseB l).length ≤ l.length := by simp [baseB]
theorem Ext_holds : Holds k_Ext := cS_of (xs := [k_LastIdx, k_Base]) (hold1 LastIdx_holds (hold1 Base_holds hold0)) fun l hl => by
  refine Runs.by (Ext_e · _) ?_
  have h1 := lastI_lo (baseB l) 46
  have h2 := lastI_hi (baseB l) 46
  have h3 := baseB_len l
  simp (disch := omega) only [size_mk, bl_mk, ev_blt, cond_true]
  by_cases h : lastI (baseB l) 46 < 0
  · simp (disch := omega) only [ev_lt_t, cond_true, extB, if_pos h]
    exact .ret
  · simp (disch := omega) only [ev_lt_f, cond_false, w64, ev_le_t, Bool.and_self, cond_true, ext_mk, List.take_length, extB, if_neg h]
    exact .ret
theorem rExt_holds : Holds k_rExt := cS_of (xs := [k_rlast, k_rBase]) (hold1 rlast_holds (hold1 rBase_holds hold0)) fun l hl => by
  refine Runs.by (rExt_e · _) ?_
  have h1 := lastI_lo (baseB l) 46
  have h2 := lastI_hi (baseB l) 46
  have h3 := baseB_len l
  simp (disch := omega) only [size_mk, bl_mk, ev_blt, cond_true]
  by_cases h : lastI (baseB l) 46 < 0
  · simp (disch := omega) only [ev_lt_t, cond_true, extB, if_pos h]
    exact .ret
  · simp (disch := omega) only [ev_lt_f, cond_false, w64, ev_le_t, Bool.and_self, cond_true, ext_mk, List.take_length, extB, if_neg h]
    exact .ret
theorem Under_holds : Holds k_Under := con_run (xs := [k_HasPre]) (hold1 HasPre_holds hold0) fun aa hp r h => by
  split at h
  case h_2 => cases h
  rename_i s t
  obtain ⟨g, rfl⟩ := xo h
  simp only [Bool.and_eq_true, Nat.ble_eq] at g
  obtain ⟨l, rfl⟩ := str_cases s
  obtain ⟨m, rfl⟩ := str_cases t
  rw [size_mk, size_mk] at g
  refine Runs.by (Under_e · _ _) ?_
  simp (disch := omega) only [size_mk, toL_mk, app_mk, imax, ev_le_t, cond_true, bl_mk]
  cases m with
  | nil => exact .ret
  | cons b m =>
    have e : ((b :: m) == ([] : List UInt8)) = false := rfl
    have hl : (b :: m ++ [47]).length ≤ 1000000000000 := by simp at g ⊢; omega
    simp only [e, cond_false]
    simp (disch := first | omega | exact hl) only [ev_blt, Bool.and_self, cond_true]
    exact .ret
theorem rUnder_holds : Holds k_rUnder := cSS_of (xs := []) hold0 fun l m hl hm => by
  refine Runs.by (rUnder_e · _ _) ?_
  simp (disch := omega) only [size_mk, toL_mk, ext_mk, List.drop_zero, Int.toNat_natCast, byI_mk, underB]
  cases m with
  | nil => exact .ret
  | cons b m =>
    have e : ((b :: m) == ([] : List UInt8)) = false := rfl
    have e2 : (b :: m).isEmpty = false := rfl
    rw [e, e2]
    generalize hd : b :: m = d at *
    simp only [cond_false, Bool.false_or]
    by_cases h : d.length < l.length
    · simp (disch := omega) only [ev_lt_t, ev_le_t, Bool.and_self, cond_true]
      obtain ⟨x, hx1, hx2, hx3⟩ := getD_drop (l := l) (i := d.length) h
      by_cases hp : l.take d.length = d
      · have hp' : (l.take d.length == d) = true := by simpa using hp
        rw [hp', cond_true, hx2]
        have : (d ++ [47]).isPrefixOf l = ((x.toNat : Int) == 47) := by
          rw [Bool.eq_iff_iff, List.isPrefixOf_iff_prefix, beq_iff_eq]
          have hl : l = d ++ x :: l.drop (d.length + 1) := by rw [← hx1]; rw [← hp, List.length_take, Nat.min_eq_left (by omega)]; simp
          rw [hl, List.prefix_append_right_inj]
          constructor
          · rintro ⟨r, hr⟩
            simp at hr; rw [← hr.1]; rfl
          · intro hx
            have : x = 47 := UInt8.toNat_inj.1 (by simpa using Int.ofNat.inj hx)
            subst this
            exact ⟨_, rfl⟩
        rw [this]
        exact .ret
      · have hp' : (l.take d.length == d) = false := by simpa using hp
        rw [hp', cond_false]
        have : (d ++ [47]).isPrefixOf l = false := by
          rw [Bool.eq_false_iff, ne_eq, List.isPrefixOf_iff_prefix]
          intro h
          exact hp (List.prefix_iff_eq_take.1 ((List.prefix_append d [47]).trans h)).symm
        rw [this]
        exact .ret
    · simp (disch := omega) only [ev_lt_f, cond_false]
      have : (d ++ [47]).isPrefixOf l = false := by
        rw [Bool.eq_false_iff, ne_eq, List.isPrefixOf_iff_prefix]
        intro hp
        have := hp.length_le
        simp at this
        omega
      rw [this]
      exact .ret

/-! ### names and paths -/
theorem letB_ref (c : Int) : letB c = ((leI 65 c && leI c 90 || leI 97 c && leI c 122) || ((leI 48 c && leI c 57) || (c == 46 || (c == 95 || c == 45)))) := by
  unfold letB
  cases leI 97 c <;> cases leI c 122 <;> cases leI 65 c <;> cases leI c 90 <;> cases leI 48 c <;> cases leI c 57 <;> rfl
theorem rname_loop (l : List UInt8) (hl : l.length ≤ 1000000000000) : ∀ m i, i + m = l.length → Runs (cfg [k_rLetter, k_rDigit]) (rname_q4 (mk l) (i : Int)) [.bool ((l.drop i).all fun b => letB (b.toNat : Int))]
  | 0, i, h => by
    refine Runs.by (rname_p4 · _ _) ?_
    simp (disch := omega) only [size_mk, ev_lt_f, cond_false]
    rw [List.drop_eq_nil_of_le (by omega)]
    exact .ret
  | m + 1, i, h => by
    refine Runs.by (rname_p4 · _ _) ?_
    obtain ⟨b, hd, hg, _⟩ := getD_drop (l := l) (i := i) (by omega)
    simp (disch := omega) only [size_mk, byI_mk, ev_le_t, ev_lt_t, Bool.and_self, cond_true, w64, hg]
    rw [hd, List.all_cons, letB_ref]
    have ih := rname_loop l hl m (i + 1) (by omega)
    generalize (b.toNat : Int) = c
    have e1 : (c != 46) = !(c == 46) := rfl
    have e2 : (c != 95) = !(c == 95) := rfl
    have e3 : (c != 45) = !(c == 45) := rfl
    rw [e1, e2, e3]
    cases (leI 65 c && leI c 90 || leI 97 c && leI c 122)
    · cases (leI 48 c && leI c 57)
      · cases c == 46
        · cases c == 95
          · cases c == 45
            · exact .ret
            · exact .go ih
          · exact .go ih
        · exact .go ih
      · exact .go ih
    · exact .go ih
theorem rname_holds : Holds k_rname := cS_of (xs := [k_rLetter, k_rDigit]) (hold1 rLetter_holds (hold1 rDigit_holds hold0)) fun l hl => by
  refine Runs.by (rname_e · _) ?_
  simp only [size_mk, toL_mk, nameB]
  by_cases h1 : l.length < 1
  · simp (disch := omega) only [ev_lt_t, cond_true, decide_eq_false (show ¬ 1 ≤ l.length by omega), Bool.false_and]
    exact .ret
  by_cases h2 : 24 < l.length
  · simp (disch := omega) only [ev_lt_f, ev_lt_t, cond_true, cond_false, decide_eq_false (show ¬ l.length ≤ 24 by omega), Bool.false_and, Bool.and_false]
    exact .ret
  simp (disch := omega) only [ev_lt_f, cond_false, decide_eq_true (show 1 ≤ l.length by omega), decide_eq_true (show l.length ≤ 24 by omega), Bool.true_and]
  cases l == [46]
  · cases l == [46, 46]
    · exact .go (rname_loop l hl l.length 0 (by omega))
    · exact .ret
  · exact .ret

/-- The elements of a list of strings. -/
theorem encS_at {ws : List (List UInt8)} {i : Nat} (h : i < ws.length) : atL (encS ws) (i : Int) = [.str (mk (ws.getD i []))] := atL_map _ ws i [] h
theorem Valid_in (w : List UInt8) (hw : w.length ≤ 1000000) (n : Int) (j : Int) (h0 : List (List L)) (r : Bool) (hj : wrapI .i64 (j + 1) = j + 1) (hr : Runs (cfg [k_Split, k_letter]) (ValidPath_q4 h0 n (j + 1)) [.bool r]) :
    ∀ m i, i + m = w.length → Runs (cfg [k_Split, k_letter]) (ValidPath_q10 (mk w) (i : Int) h0 n j) [.bool (((w.drop i).all fun b => letB (b.toNat : Int)) && r)]
  | 0, i, h => by
    refine Runs.by (ValidPath_p10 · _ _ _ _ _) ?_
    simp (disch := omega) only [size_mk, ev_eq_t, cond_true, hj]
    rw [List.drop_eq_nil_of_le (by omega)]
    exact .go hr
  | m + 1, i, h => by
    refine Runs.by (ValidPath_p10 · _ _ _ _ _) ?_
    obtain ⟨b, hd, hg, _⟩ := getD_drop (l := w) (i := i) (by omega)
    simp (disch := omega) only [size_mk, byI_mk, ev_le_t, ev_lt_t, ev_eq_f, Bool.and_self, cond_true, cond_false, w64, hg]
    rw [hd, List.all_cons]
    have ih := Valid_in w hw n j h0 r hj hr m (i + 1) (by omega)
    cases letB (b.toNat : Int)
    · exact .ret
    · exact .go ih
theorem Valid_loop (ws : List (List UInt8)) (hws : ws.length ≤ 1000000) (hw : ∀ w ∈ ws, w.length ≤ 1000000) : ∀ m i, i + m = ws.length → Runs (cfg [k_Split, k_letter]) (ValidPath_q4 (encS ws) (ws.length : Int) (i : Int)) [.bool ((ws.drop i).all nameB)]
  | 0, i, h => by
    refine Runs.by (ValidPath_p4 · _ _ _) ?_
    simp (disch := omega) only [ev_lt_f, cond_false]
    rw [List.drop_eq_nil_of_le (by omega)]
    exact .ret
  | m + 1, i, h => by
    refine Runs.by (ValidPath_p4 · _ _ _) ?_
    have hi : i < ws.length := by omega
    have hlen : (encS ws).length = ws.length := by simp [encS]
    have hd : ws.drop i = ws.getD i [] :: ws.drop (i + 1) := by rw [List.drop_eq_getElem_cons hi]; simp [List.getD, hi]
    have hm : ws.getD i [] ∈ ws := by simp [List.getD, hi]
    rw [encS_at hi, hd, List.all_cons]
    have hw0 := hw _ hm
    have ih := Valid_loop ws hws hw m (i + 1) (by omega)
    generalize ws.getD i [] = w at *
    simp (disch := omega) only [hlen, ev_lt_t, ev_le_t, Bool.and_self, cond_true, cT, cellN, List.headD_cons, L.toStr, toL_mk, size_mk, nameB]
    cases w == [46]
    case true => simp only [cond_true, Bool.not_true, Bool.false_and, Bool.and_false]; exact .ret
    cases w == [46, 46]
    case true => simp only [cond_true, cond_false, Bool.not_true, Bool.false_and, Bool.and_false]; exact .ret
    simp only [cond_false, Bool.not_false, Bool.true_and]
    by_cases h1 : w.length < 1
    · simp (disch := omega) only [ev_lt_t, cond_true, decide_eq_false (show ¬ 1 ≤ w.length by omega), Bool.false_and]
      exact .ret
    by_cases h2 : 24 < w.length
    · simp (disch := omega) only [ev_lt_f, ev_lt_t, cond_true, cond_false, decide_eq_false (show ¬ w.length ≤ 24 by omega), Bool.false_and, Bool.and_false]
      exact .ret
    simp (disch := omega) only [ev_lt_f, cond_false, decide_eq_true (show 1 ≤ w.length by omega), decide_eq_true (show w.length ≤ 24 by omega), Bool.true_and]
    exact .go (Valid_in w hw0 _ _ _ _ (w64 (by omega) (by omega)) ih w.length 0 (by omega))
theorem splitB_len (c : UInt8) (l : List UInt8) : (splitB c l).length ≤ l.length + 1 ∧ ∀ w ∈ splitB c l, w.length ≤ l.length := by
  induction l with
  | nil => simp [splitB]
  | cons b l ih =>
    obtain ⟨h1, h2⟩ := ih
    unfold splitB
    split
    · refine ⟨by simp; omega, fun w hw => ?_⟩
      rcases List.mem_cons.1 hw with rfl | hw
      · simp
      · have := h2 w hw; simp; omega
    · split
      · rename_i e
        exact ⟨by simp, fun w hw => by simp at hw; subst hw; simp⟩
      · rename_i w0 ws e
        rw [e] at h1 h2
        refine ⟨by simp at h1 ⊢; omega, fun w hw => ?_⟩
        rcases List.mem_cons.1 hw with rfl | hw
        · have := h2 w0 (by simp); simp; omega
        · have := h2 w (by simp [hw]); simp; omega
theorem ValidPath_holds : Holds k_ValidPath := cS_of (xs := [k_Split, k_letter]) (hold1 Split_holds (hold1 letter_holds hold0)) fun l hl => by
  refine Runs.by (ValidPath_e · _) ?_
  rw [size_mk]
  unfold validB
  by_cases h : 60 < l.length
  · simp (disch := omega) only [ev_lt_t, cond_true, decide_eq_false (show ¬ l.length ≤ 60 by omega), Bool.false_and]
    exact .ret
  · simp (disch := omega) only [ev_lt_f, cond_false, decide_eq_true (show l.length ≤ 60 by omega), Bool.true_and]
    refine .go (Runs.by (ValidPath_p3 · _) ?_)
    have hg : List.getD (bl (mk [47])) 0 0 = 47 := rfl
    have hlen : (encS (splitB 47 l)).length = (splitB 47 l).length := by simp [encS]
    simp (disch := omega) only [size_mk, ev_blt, cond_true, hg, bl_mk, hlen]
    obtain ⟨h1, h2⟩ := splitB_len 47 l
    exact .go (Valid_loop (splitB 47 l) (by omega) (fun w hw => by have := h2 w hw; omega) (splitB 47 l).length 0 (by omega))

theorem rValid_loop (p : List UInt8) (hp : p.length ≤ 60) : ∀ m i b, i + m = p.length → b ≤ i → (∀ x ∈ (p.drop b).take (i - b), x ≠ 47) → Runs (cfg [k_rname]) (rValidPath_q5 (mk p) (b : Int) (i : Int)) [.bool ((splitB 47 (p.drop b)).all nameB)]
  | 0, i, b, h, hb, hx => by
    obtain rfl : i = p.length := by omega
    refine Runs.by (rValidPath_p5 · _ _ _) ?_
    have e1 : ((p.length : Nat) : Int) + 1 = ((p.length + 1 : Nat) : Int) := by omega
    have hl : (List.drop b (List.take p.length p)).length ≤ 60 := by simp; omega
    simp (disch := omega) only [size_mk, ev_le_t, ev_eq_t, cond_true, Bool.and_self, Int.toNat_natCast, ext_mk, ev_blt, bl_mk, w64]
    rw [List.take_length] at *
    have hs : splitB 47 (p.drop b) = [p.drop b] := by
      rcases indexByte_cases (p.drop b) 47 with ⟨_, _, h3⟩ | ⟨m, h2, _, _, h5, _, _⟩
      · exact h3
      · exact absurd rfl (hx 47 (by
          rw [List.take_of_length_le (by simp)]
          exact List.mem_of_getElem? h5))
    rw [hs, List.all_cons, List.all_nil, Bool.and_true]
    cases nameB (p.drop b)
    · exact .ret
    · refine .go (Runs.by (rValidPath_p5 · _ _ _) ?_)
      simp (disch := omega) only [size_mk, ev_le_f, cond_false]
      exact .ret
  | m + 1, i, b, h, hb, hx => by
    refine Runs.by (rValidPath_p5 · _ _ _) ?_
    obtain ⟨c, hd, hg, hc⟩ := getD_drop (l := p) (i := i) (by omega)
    have hl : (List.drop b (List.take i p)).length ≤ 60 := by simp; omega
    simp (disch := omega) only [size_mk, ev_le_t, ev_lt_t, ev_eq_f, cond_true, cond_false, Bool.and_self, Int.toNat_natCast, ext_mk, ev_blt, bl_mk, w64, byI_mk, hg]
    have e0 : (p.drop b).take (i - b) = (p.take i).drop b := by rw [List.drop_take]
    rw [e0] at hx
    by_cases hcc : c = 47
    · subst hcc
      have hs : splitB 47 (p.drop b) = (p.take i).drop b :: splitB 47 (p.drop (i + 1)) := by
        rcases indexByte_cases (p.drop b) 47 with ⟨_, h2, _⟩ | ⟨m', h2, _, h4, h5, _, h7⟩
        · exfalso
          have : (47 : UInt8) ∈ p.drop b := by
            refine List.mem_of_getElem? (i := i - b) ?_
            rw [List.getElem?_drop, show b + (i - b) = i by omega]; exact hc
          exact List.count_eq_zero.1 h2 this
        · have hm : m' = i - b := by
            rcases Nat.lt_trichotomy m' (i - b) with h | h | h
            · exfalso
              refine hx 47 ?_ rfl
              rw [← e0]
              refine List.mem_of_getElem? (i := m') ?_
              rw [List.getElem?_take, if_pos h]; exact h5
            · exact h
            · exfalso
              refine h4 47 ?_ rfl
              refine List.mem_of_getElem? (i := i - b) ?_
              rw [List.getElem?_take, if_pos h, List.getElem?_drop, show b + (i - b) = i by omega]; exact hc
          rw [h7, hm, e0, List.drop_drop, show b + (i - b + 1) = i + 1 by omega]
      have h47 : (((47 : UInt8).toNat : Int) == 47) = true := rfl
      rw [hs, List.all_cons, h47]
      simp only [cond_true]
      cases nameB ((p.take i).drop b)
      · exact .ret
      · have ih := rValid_loop p hp m (i + 1) (i + 1) (by omega) (Nat.le_refl _) (by simp)
        exact .go ih
    · have h47 : ((c.toNat : Int) == 47) = false := ev_eq_f fun h => hcc (UInt8.toNat_inj.1 (by simpa using Int.ofNat.inj h))
      rw [h47]
      simp only [cond_false]
      refine .go (rValid_loop p hp m (i + 1) b (by omega) (by omega) ?_)
      intro x hx'
      have : (p.drop b).take (i + 1 - b) = (p.take i).drop b ++ [c] := by
        rw [show i + 1 - b = (i - b) + 1 by omega, List.take_add_one, e0, List.getElem?_drop, show b + (i - b) = i by omega, hc]
        rfl
      rw [this, List.mem_append] at hx'
      rcases hx' with h | h
      · exact hx x h
      · simp at h; subst h; exact hcc
theorem rValidPath_holds : Holds k_rValidPath := cS_of (xs := [k_rname]) (hold1 rname_holds hold0) fun l hl => by
  refine Runs.by (rValidPath_e · _) ?_
  rw [size_mk]
  unfold validB
  by_cases h : 60 < l.length
  · simp (disch := omega) only [ev_lt_t, cond_true, decide_eq_false (show ¬ l.length ≤ 60 by omega), Bool.false_and]
    exact .ret
  · simp (disch := omega) only [ev_lt_f, cond_false, decide_eq_true (show l.length ≤ 60 by omega), Bool.true_and]
    exact .go (rValid_loop l (by omega) l.length 0 0 (by omega) (Nat.le_refl _) (by simp))
end Go.Ab
namespace Go.Ab
open Go.Proofs
/-! codesearch/glob.set -/
noncomputable def set_q4 (s0 : ByteArray) (h0_0 : Int) (h0_1 : Int) (h0_2 : Bool) (h1_0 : Int) (h1_1 : Int) (h1_2 : Bool) (h2 : List (List L)) (h3 : List (List L)) : Req := .point 41 [] (todoAt Tryd.prog 41 4) ⟨[(.lf (.str s0)), an, (.lf (.ptr 0 0)), an, (.lf (.ptr 1 0)), an, an, an, an, an, an, an, an, an, an, an, an, an, an, an, an, an, an, an, an, an, an, an, an, an, an, an, an, an, an, an, an, an, an, an, an, an, an, an, an, an, an, an, an, an, an, an, an, an, an, an], [(.box [(.int IntKind.i64), (.int IntKind.u8), .bool, (.sl 59)] [(.int IntKind.i64 h0_0), (.int IntKind.u8 h0_1), (.bool h0_2), (.row 2)]), (.box [(.int IntKind.i64), (.int IntKind.u8), .bool, (.sl 59)] [(.int IntKind.i64 h1_0), (.int IntKind.u8 h1_1), (.bool h1_2), (.row 3)]), (.row 59 h2 true), (.row 59 h3 true)]⟩
theorem set_e (G : Req → R) (s0 : ByteArray) : runB (cfg []) G (.enter 41 [(.lf (.str (s0)))] []) =
  (cond (!bl s0 == bl (mk []))
   (cond (ltI 0 (↑(ByteArray.size s0) : Int))
    (cond (byI s0 0 == 33)
     (cond (leI 1 (↑(ByteArray.size s0) : Int))
      (G (set_q4 (ByteArray.extract s0 1 (ByteArray.size s0)) 0 0 false 4 0 true [] []))
      none)
     (G (set_q4 s0 0 0 false 4 0 false [] [])))
    none)
   (G (set_q4 s0 0 0 false 4 0 false [] []))) := by kernel_rfl
theorem set_p4 (G : Req → R) (s0 : ByteArray) (h0_0 : Int) (h0_1 : Int) (h0_2 : Bool) (h1_0 : Int) (h1_1 : Int) (h1_2 : Bool) (h2 : List (List L)) (h3 : List (List L)) : runB (cfg []) G (set_q4 s0 h0_0 h0_1 h0_2 h1_0 h1_1 h1_2 h2 h3) =
  (cond (!bl s0 == bl (mk []))
   (cond (ltI 0 (↑(ByteArray.size s0) : Int))
    (cond (ltI 0 (↑(ByteArray.size s0) : Int))
     (cond (ltI 2 (↑(ByteArray.size s0) : Int))
      (cond (ltI 1 (↑(ByteArray.size s0) : Int))
       (cond (byI s0 1 == 45)
        (cond (ltI 2 (↑(ByteArray.size s0) : Int))
         (cond (ltI (byI s0 2) (byI s0 0))
          (some [(.int IntKind.i64 (h1_0)), (.int IntKind.u8 (h1_1)), (.bool (h1_2)), (.lst 59 h3), (.bool (false))])
          (cond (roomN (List.length h3 + 1) 2)
           (cond (leI 3 (↑(ByteArray.size s0) : Int))
            (G (set_q4 (ByteArray.extract s0 3 (ByteArray.size s0)) h0_0 h0_1 h0_2 h1_0 h1_1 h1_2 h2 (h3 ++ [[L.int IntKind.u8 (byI s0 0), L.int IntKind.u8 (byI s0 2)]])))
            none)
           none))
         none)
        (cond (ltI (byI s0 0) (byI s0 0))
         (some [(.int IntKind.i64 (h1_0)), (.int IntKind.u8 (h1_1)), (.bool (h1_2)), (.lst 59 h3), (.bool (false))])
         (cond (roomN (List.length h3 + 1) 2)
          (cond (leI 1 (↑(ByteArray.size s0) : Int))
           (G (set_q4 (ByteArray.extract s0 1 (ByteArray.size s0)) h0_0 h0_1 h0_2 h1_0 h1_1 h1_2 h2 (h3 ++ [[L.int IntKind.u8 (byI s0 0), L.int IntKind.u8 (byI s0 0)]])))
           none)
          none)))
       none)
      (cond (ltI (byI s0 0) (byI s0 0))
       (some [(.int IntKind.i64 (h1_0)), (.int IntKind.u8 (h1_1)), (.bool (h1_2)), (.lst 59 h3), (.bool (false))])
       (cond (roomN (List.length h3 + 1) 2)
        (cond (leI 1 (↑(ByteArray.size s0) : Int))
         (G (set_q4 (ByteArray.extract s0 1 (ByteArray.size s0)) h0_0 h0_1 h0_2 h1_0 h1_1 h1_2 h2 (h3 ++ [[L.int IntKind.u8 (byI s0 0), L.int IntKind.u8 (byI s0 0)]])))
         none)
        none)))
     none)
    none)
   (some [(.int IntKind.i64 (h1_0)), (.int IntKind.u8 (h1_1)), (.bool (h1_2)), (.lst 59 h3), (.bool (ltI 0 (↑(List.length h3) : Int)))])) := by kernel_rfl

/-! codesearch/glob.parse -/
noncomputable def parse_q2 (g0 : ByteArray) (h0 : List (List L)) : Req := .point 29 [] (todoAt Tryd.prog 29 2) ⟨[(.lf (.str g0)), an, an, an, (.lf (.row 0)), an, an, an, an, an, an, an, an, an, an, an, an, an, an, an, an, an, an, an, an, an, an, an, an, an, an, an, an, an, an, an, an, an, an, an, an, an, an, an, an, an, an, an, an, an, an, an, an, an, an, an, an, an, an, an, an, an, an, an, an, an, an, an, an, an, an, an, an, an, an, an, an, an, an, an], [(.row 40 h0 true)]⟩
theorem parse_e (G : Req → R) (g0 : ByteArray) : runB (cfg [k_HasPre, k_IndexByte, k_set, k_printable]) G (.enter 29 [(.lf (.str (g0)))] []) =
  (G (parse_q2 g0 [])) := by kernel_rfl
theorem parse_p2 (G : Req → R) (g0 : ByteArray) (h0 : List (List L)) : runB (cfg [k_HasPre, k_IndexByte, k_set, k_printable]) G (parse_q2 g0 h0) =
  (cond (!bl g0 == bl (mk []))
   (cond (ltI 0 (↑(ByteArray.size g0) : Int))
    (cond (ltI 0 (↑(ByteArray.size g0) : Int))
     (cond (ltI (byI g0 0) 33)
      (some [(.lst 40 []), (.bool (false))])
      (cond (ltI 0 (↑(ByteArray.size g0) : Int))
       (cond (ltI 126 (byI g0 0))
        (some [(.lst 40 []), (.bool (false))])
        (cond (ltI 0 (↑(ByteArray.size g0) : Int))
         (cond (byI g0 0 == 93)
          (some [(.lst 40 []), (.bool (false))])
          (cond (Nat.ble (ByteArray.size g0) 1000000000000 && true)
           (cond (List.isPrefixOf (bl (mk [42, 42, 42])) (bl g0))
            (some [(.lst 40 []), (.bool (false))])
            (cond (Nat.ble (ByteArray.size g0) 1000000000000 && true)
             (cond (List.isPrefixOf (bl (mk [42, 42])) (bl g0))
              (cond (roomN (List.length h0 + 1) 40)
               (cond (leI 2 (↑(ByteArray.size g0) : Int))
                (G (parse_q2 (ByteArray.extract g0 2 (ByteArray.size g0)) (h0 ++ [[L.int IntKind.i64 1, L.int IntKind.u8 (byI g0 0), L.bool false, L.lst 59 []]])))
                none)
               none)
              (cond (ltI 0 (↑(ByteArray.size g0) : Int))
               (cond (byI g0 0 == 42)
                (cond (roomN (List.length h0 + 1) 40)
                 (cond (leI 1 (↑(ByteArray.size g0) : Int))
                  (G (parse_q2 (ByteArray.extract g0 1 (ByteArray.size g0)) (h0 ++ [[L.int IntKind.i64 2, L.int IntKind.u8 (byI g0 0), L.bool false, L.lst 59 []]])))
                  none)
                 none)
                (cond (ltI 0 (↑(ByteArray.size g0) : Int))
                 (cond (byI g0 0 == 63)
                  (cond (roomN (List.length h0 + 1) 40)
                   (cond (leI 1 (↑(ByteArray.size g0) : Int))
                    (G (parse_q2 (ByteArray.extract g0 1 (ByteArray.size g0)) (h0 ++ [[L.int IntKind.i64 3, L.int IntKind.u8 (byI g0 0), L.bool false, L.lst 59 []]])))
                    none)
                   none)
                  (cond (ltI 0 (↑(ByteArray.size g0) : Int))
                   (cond (byI g0 0 == 91)
                    (cond (Nat.ble (ByteArray.size g0) 1000000000000)
                     (cond (ltI (ixI (bl g0) 93) 0)
                      (some [(.lst 40 []), (.bool (false))])
                      (cond (leI 0 (ixI (bl g0) 93) && leI (ixI (bl g0) 93) (↑(ByteArray.size g0) : Int) && leI 1 (↑(Int.toNat (ixI (bl g0) 93)) : Int))
                       (cond (Nat.ble (ByteArray.size (ByteArray.extract g0 1 (Int.toNat (ixI (bl g0) 93)))) 1000000)
                        (cond (!setOk (bl (ByteArray.extract g0 1 (Int.toNat (ixI (bl g0) 93)))))
                         (some [(.lst 40 []), (.bool (false))])
                         (cond (leI 0 (ixI (bl g0) 93) && leI (ixI (bl g0) 93) (↑(ByteArray.size g0) : Int) && leI 1 (↑(Int.toNat (ixI (bl g0) 93)) : Int))
                          (cond (Nat.ble (ByteArray.size (ByteArray.extract g0 1 (Int.toNat (ixI (bl g0) 93)))) 1000000000000)
                           (cond (!List.all (bl (ByteArray.extract g0 1 (Int.toNat (ixI (bl g0) 93)))) visB)
                            (some [(.lst 40 []), (.bool (false))])
                            (cond (roomN (List.length h0 + 1) 40)
                             (cond (leI 0 (wrapI IntKind.i64 (ixI (bl g0) 93 + 1)) && leI (wrapI IntKind.i64 (ixI (bl g0) 93 + 1)) (↑(ByteArray.size g0) : Int))
                              (G (parse_q2 (ByteArray.extract g0 (Int.toNat (wrapI IntKind.i64 (ixI (bl g0) 93 + 1))) (ByteArray.size g0)) (h0 ++ [[L.int IntKind.i64 4, L.int IntKind.u8 0, L.bool (negB (bl (ByteArray.extract g0 1 (Int.toNat (ixI (bl g0) 93))))), L.lst 59 (encRs (Prod.fst (rangesP (bodyB (bl (ByteArray.extract g0 1 (Int.toNat (ixI (bl g0) 93))))))))]])))
                              none)
                             none))
                           none)
                          none))
                        none)
                       none))
                     none)
                    (cond (roomN (List.length h0 + 1) 40)
                     (cond (leI 1 (↑(ByteArray.size g0) : Int))
                      (G (parse_q2 (ByteArray.extract g0 1 (ByteArray.size g0)) (h0 ++ [[L.int IntKind.i64 0, L.int IntKind.u8 (byI g0 0), L.bool false, L.lst 59 []]])))
                      none)
                     none))
                   none))
                 none))
               none))
             none))
           none))
         none))
       none))
     none)
    none)
   (some [(.lst 40 h0), (.bool (true))])) := by kernel_rfl

/-! codesearch/glob.Right -/
theorem Right_e (G : Req → R) (g0 : ByteArray) : runB (cfg [k_parse]) G (.enter 12 [(.lf (.str (g0)))] []) =
  (cond (ltI 60 (↑(ByteArray.size g0) : Int))
   (some [(.int IntKind.i64 (4))])
   (cond (Nat.ble (ByteArray.size g0) 1000000)
    (cond (!Option.isSome (parseE true (bl g0)))
     (some [(.int IntKind.i64 (3))])
     (some [(.int IntKind.i64 (0))]))
    none)) := by kernel_rfl

/-! codesearch/codesearchref02.set -/
noncomputable def rset_q3 (g0 : ByteArray) (at1 : Int) (end7 : Int) (h0_0 : Int) (h0_1 : Int) (h0_2 : Bool) (h1_0 : Int) (h1_1 : Int) (h1_2 : Bool) (h2 : List (List L)) (h3 : List (List L)) : Req := .point 43 [] (todoAt Tryd.prog 43 3) ⟨[(.lf (.str g0)), (.lf (.int IntKind.i64 at1)), an, an, (.lf (.ptr 0 0)), an, (.lf (.ptr 1 0)), (.lf (.int IntKind.i64 end7)), an, an, an, an, an, an, an, an, an, an, an, an, an, an, an, an, an, an, an, an, an, an, an, an, an, an, an, an, an, an, an, an, an, an, an, an, an, an, an, an, an, an, an, an, an, an, an, an, an, an, an, an, an, an, an, an, an, an, an, an, an, an, an, an, an, an, an, an, an, an, an, an, an, an, an, an, an, an, an, an, an, an, an, an, an, an, an, an, an, an, an, an, an, an, an], [(.box [(.int IntKind.i64), (.int IntKind.u8), .bool, (.sl 63)] [(.int IntKind.i64 h0_0), (.int IntKind.u8 h0_1), (.bool h0_2), (.row 2)]), (.box [(.int IntKind.i64), (.int IntKind.u8), .bool, (.sl 63)] [(.int IntKind.i64 h1_0), (.int IntKind.u8 h1_1), (.bool h1_2), (.row 3)]), (.row 63 h2 true), (.row 63 h3 true)]⟩
noncomputable def rset_q11 (g0 : ByteArray) (end7 : Int) (i8 : Int) (h0_0 : Int) (h0_1 : Int) (h0_2 : Bool) (h1_0 : Int) (h1_1 : Int) (h1_2 : Bool) (h2 : List (List L)) (h3 : List (List L)) : Req := .point 43 [] (todoAt Tryd.prog 43 11) ⟨[(.lf (.str g0)), an, an, an, (.lf (.ptr 0 0)), an, (.lf (.ptr 1 0)), (.lf (.int IntKind.i64 end7)), (.lf (.int IntKind.i64 i8)), an, an, an, an, an, an, an, an, an, an, an, an, an, an, an, an, an, an, an, an, an, an, an, an, an, an, an, an, an, an, an, an, an, an, an, an, an, an, an, an, an, an, an, an, an, an, an, an, an, an, an, an, an, an, an, an, an, an, an, an, an, an, an, an, an, an, an, an, an, an, an, an, an, an, an, an, an, an, an, an, an, an, an, an, an, an, an, an, an, an, an, an, an, an], [(.box [(.int IntKind.i64), (.int IntKind.u8), .bool, (.sl 63)] [(.int IntKind.i64 h0_0), (.int IntKind.u8 h0_1), (.bool h0_2), (.row 2)]), (.box [(.int IntKind.i64), (.int IntKind.u8), .bool, (.sl 63)] [(.int IntKind.i64 h1_0), (.int IntKind.u8 h1_1), (.bool h1_2), (.row 3)]), (.row 63 h2 true), (.row 63 h3 true)]⟩
theorem rset_e (G : Req → R) (g0 : ByteArray) (at1 : Int) : runB (cfg []) G (.enter 43 [(.lf (.str (g0))), (.lf (.int IntKind.i64 (at1)))] []) =
  (G (rset_q3 g0 at1 (wrapI IntKind.i64 (at1 + 1)) 0 0 false 5 0 false [] [])) := by kernel_rfl
theorem rset_p3 (G : Req → R) (g0 : ByteArray) (at1 : Int) (end7 : Int) (h0_0 : Int) (h0_1 : Int) (h0_2 : Bool) (h1_0 : Int) (h1_1 : Int) (h1_2 : Bool) (h2 : List (List L)) (h3 : List (List L)) : runB (cfg []) G (rset_q3 g0 at1 end7 h0_0 h0_1 h0_2 h1_0 h1_1 h1_2 h2 h3) =
  (cond (ltI end7 (↑(ByteArray.size g0) : Int))
   (cond (leI 0 end7 && ltI end7 (↑(ByteArray.size g0) : Int))
    (cond (byI g0 end7 != 93)
     (G (rset_q3 g0 at1 (wrapI IntKind.i64 (end7 + 1)) h0_0 h0_1 h0_2 h1_0 h1_1 h1_2 h2 h3))
     (cond (leI (↑(ByteArray.size g0) : Int) end7)
      (some [(.int IntKind.i64 (h1_0)), (.int IntKind.u8 (h1_1)), (.bool (h1_2)), (.lst 63 h3), (.int IntKind.i64 (-1))])
      (cond (ltI (wrapI IntKind.i64 (at1 + 1)) end7)
       (cond (leI 0 (wrapI IntKind.i64 (at1 + 1)) && ltI (wrapI IntKind.i64 (at1 + 1)) (↑(ByteArray.size g0) : Int))
        (cond (byI g0 (wrapI IntKind.i64 (at1 + 1)) == 33)
         (G (rset_q11 g0 end7 (wrapI IntKind.i64 (wrapI IntKind.i64 (at1 + 1) + 1)) h0_0 h0_1 h0_2 h1_0 h1_1 true h2 h3))
         (G (rset_q11 g0 end7 (wrapI IntKind.i64 (at1 + 1)) h0_0 h0_1 h0_2 h1_0 h1_1 h1_2 h2 h3)))
        none)
       (G (rset_q11 g0 end7 (wrapI IntKind.i64 (at1 + 1)) h0_0 h0_1 h0_2 h1_0 h1_1 h1_2 h2 h3)))))
    none)
   (cond (leI (↑(ByteArray.size g0) : Int) end7)
    (some [(.int IntKind.i64 (h1_0)), (.int IntKind.u8 (h1_1)), (.bool (h1_2)), (.lst 63 h3), (.int IntKind.i64 (-1))])
    (cond (ltI (wrapI IntKind.i64 (at1 + 1)) end7)
     (cond (leI 0 (wrapI IntKind.i64 (at1 + 1)) && ltI (wrapI IntKind.i64 (at1 + 1)) (↑(ByteArray.size g0) : Int))
      (cond (byI g0 (wrapI IntKind.i64 (at1 + 1)) == 33)
       (G (rset_q11 g0 end7 (wrapI IntKind.i64 (wrapI IntKind.i64 (at1 + 1) + 1)) h0_0 h0_1 h0_2 h1_0 h1_1 true h2 h3))
       (G (rset_q11 g0 end7 (wrapI IntKind.i64 (at1 + 1)) h0_0 h0_1 h0_2 h1_0 h1_1 h1_2 h2 h3)))
      none)
     (G (rset_q11 g0 end7 (wrapI IntKind.i64 (at1 + 1)) h0_0 h0_1 h0_2 h1_0 h1_1 h1_2 h2 h3))))) := by kernel_rfl
theorem rset_p11 (G : Req → R) (g0 : ByteArray) (end7 : Int) (i8 : Int) (h0_0 : Int) (h0_1 : Int) (h0_2 : Bool) (h1_0 : Int) (h1_1 : Int) (h1_2 : Bool) (h2 : List (List L)) (h3 : List (List L)) : runB (cfg []) G (rset_q11 g0 end7 i8 h0_0 h0_1 h0_2 h1_0 h1_1 h1_2 h2 h3) =
  (cond (ltI i8 end7)
   (cond (ltI (wrapI IntKind.i64 (i8 + 2)) end7)
    (cond (leI 0 (wrapI IntKind.i64 (i8 + 1)) && ltI (wrapI IntKind.i64 (i8 + 1)) (↑(ByteArray.size g0) : Int))
     (cond (byI g0 (wrapI IntKind.i64 (i8 + 1)) == 45)
      (cond (leI 0 (wrapI IntKind.i64 (i8 + 2)) && ltI (wrapI IntKind.i64 (i8 + 2)) (↑(ByteArray.size g0) : Int))
       (cond (leI 0 i8 && ltI i8 (↑(ByteArray.size g0) : Int))
        (cond (ltI (byI g0 (wrapI IntKind.i64 (i8 + 2))) (byI g0 i8))
         (some [(.int IntKind.i64 (h1_0)), (.int IntKind.u8 (h1_1)), (.bool (h1_2)), (.lst 63 h3), (.int IntKind.i64 (-1))])
         (cond (leI 0 i8 && ltI i8 (↑(ByteArray.size g0) : Int))
          (cond (leI 0 (wrapI IntKind.i64 (i8 + 2)) && ltI (wrapI IntKind.i64 (i8 + 2)) (↑(ByteArray.size g0) : Int))
           (cond (roomN (List.length h3 + 1) 2)
            (G (rset_q11 g0 end7 (wrapI IntKind.i64 (i8 + 3)) h0_0 h0_1 h0_2 h1_0 h1_1 h1_2 h2 (h3 ++ [[L.int IntKind.u8 (byI g0 i8), L.int IntKind.u8 (byI g0 (wrapI IntKind.i64 (i8 + 2)))]])))
            none)
           none)
          none))
        none)
       none)
      (cond (leI 0 i8 && ltI i8 (↑(ByteArray.size g0) : Int))
       (cond (leI 0 i8 && ltI i8 (↑(ByteArray.size g0) : Int))
        (cond (roomN (List.length h3 + 1) 2)
         (G (rset_q11 g0 end7 (wrapI IntKind.i64 (i8 + 1)) h0_0 h0_1 h0_2 h1_0 h1_1 h1_2 h2 (h3 ++ [[L.int IntKind.u8 (byI g0 i8), L.int IntKind.u8 (byI g0 i8)]])))
         none)
        none)
       none))
     none)
    (cond (leI 0 i8 && ltI i8 (↑(ByteArray.size g0) : Int))
     (cond (leI 0 i8 && ltI i8 (↑(ByteArray.size g0) : Int))
      (cond (roomN (List.length h3 + 1) 2)
       (G (rset_q11 g0 end7 (wrapI IntKind.i64 (i8 + 1)) h0_0 h0_1 h0_2 h1_0 h1_1 h1_2 h2 (h3 ++ [[L.int IntKind.u8 (byI g0 i8), L.int IntKind.u8 (byI g0 i8)]])))
       none)
      none)
     none))
   (cond ((↑(List.length h3) : Int) == 0)
    (some [(.int IntKind.i64 (h1_0)), (.int IntKind.u8 (h1_1)), (.bool (h1_2)), (.lst 63 h3), (.int IntKind.i64 (-1))])
    (some [(.int IntKind.i64 (h1_0)), (.int IntKind.u8 (h1_1)), (.bool (h1_2)), (.lst 63 h3), (.int IntKind.i64 (wrapI IntKind.i64 (end7 + 1)))]))) := by kernel_rfl

/-! codesearch/codesearchref02.elems -/
noncomputable def relems_q3 (g0 : ByteArray) (i5 : Int) (h0 : List (List L)) : Req := .point 30 [] (todoAt Tryd.prog 30 3) ⟨[(.lf (.str g0)), an, an, an, (.lf (.row 0)), (.lf (.int IntKind.i64 i5)), an, an, an, an, an, an, an, an, an, an, an, an, an, an, an, an, an, an, an, an, an, an, an, an, an, an, an, an, an, an, an, an, an, an, an, an, an, an, an, an, an, an, an, an, an, an, an, an, an, an, an, an, an, an, an, an, an, an, an, an, an, an, an, an, an, an, an, an, an, an, an, an, an, an, an, an, an, an, an, an], [(.row 45 h0 true)]⟩
noncomputable def relems_q14 (g0 : ByteArray) (i5 : Int) (n8 : Int) (h0 : List (List L)) : Req := .point 30 [] (todoAt Tryd.prog 30 14) ⟨[(.lf (.str g0)), an, an, an, (.lf (.row 0)), (.lf (.int IntKind.i64 i5)), an, an, (.lf (.int IntKind.i64 n8)), an, an, an, an, an, an, an, an, an, an, an, an, an, an, an, an, an, an, an, an, an, an, an, an, an, an, an, an, an, an, an, an, an, an, an, an, an, an, an, an, an, an, an, an, an, an, an, an, an, an, an, an, an, an, an, an, an, an, an, an, an, an, an, an, an, an, an, an, an, an, an, an, an, an, an, an, an], [(.row 45 h0 true)]⟩
theorem relems_e (G : Req → R) (g0 : ByteArray) : runB (cfg [k_rset]) G (.enter 30 [(.lf (.str (g0)))] []) =
  (G (relems_q3 g0 0 [])) := by kernel_rfl
theorem relems_p3 (G : Req → R) (g0 : ByteArray) (i5 : Int) (h0 : List (List L)) : runB (cfg [k_rset]) G (relems_q3 g0 i5 h0) =
  (cond (ltI i5 (↑(ByteArray.size g0) : Int))
   (cond (leI 0 i5 && ltI i5 (↑(ByteArray.size g0) : Int))
    (cond (byI g0 i5 == 91)
     (cond (Nat.ble (ByteArray.size g0) 1000000 && (leI 0 i5 && ltI i5 (↑(ByteArray.size g0) : Int)))
      (cond (ltI (rsetN (List.drop (Int.toNat i5 + 1) (bl g0)) i5) 0)
       (some [(.lst 45 []), (.bool (false))])
       (cond (roomN (List.length h0 + 1) 40)
        (G (relems_q3 g0 (rsetN (List.drop (Int.toNat i5 + 1) (bl g0)) i5) (h0 ++ [[L.int IntKind.i64 5, L.int IntKind.u8 0, L.bool (elNeg (rsetE (List.drop (Int.toNat i5 + 1) (bl g0)))), L.lst 63 (encRs (elRs (rsetE (List.drop (Int.toNat i5 + 1) (bl g0)))))]])))
        none))
      none)
     (cond (leI 0 i5 && ltI i5 (↑(ByteArray.size g0) : Int))
      (cond (byI g0 i5 == 93)
       (some [(.lst 45 []), (.bool (false))])
       (cond (leI 0 i5 && ltI i5 (↑(ByteArray.size g0) : Int))
        (cond (byI g0 i5 == 42)
         (G (relems_q14 g0 i5 1 h0))
         (cond (leI 0 i5 && ltI i5 (↑(ByteArray.size g0) : Int))
          (cond (byI g0 i5 == 63)
           (cond (roomN (List.length h0 + 1) 40)
            (G (relems_q3 g0 (wrapI IntKind.i64 (i5 + 1)) (h0 ++ [[L.int IntKind.i64 2, L.int IntKind.u8 0, L.bool false, L.lst 63 []]])))
            none)
           (cond (leI 0 i5 && ltI i5 (↑(ByteArray.size g0) : Int))
            (cond (roomN (List.length h0 + 1) 40)
             (G (relems_q3 g0 (wrapI IntKind.i64 (i5 + 1)) (h0 ++ [[L.int IntKind.i64 1, L.int IntKind.u8 (byI g0 i5), L.bool false, L.lst 63 []]])))
             none)
            none))
          none))
        none))
      none))
    none)
   (some [(.lst 45 h0), (.bool (true))])) := by kernel_rfl
theorem relems_p14 (G : Req → R) (g0 : ByteArray) (i5 : Int) (n8 : Int) (h0 : List (List L)) : runB (cfg [k_rset]) G (relems_q14 g0 i5 n8 h0) =
  (cond (ltI (wrapI IntKind.i64 (i5 + n8)) (↑(ByteArray.size g0) : Int))
   (cond (leI 0 (wrapI IntKind.i64 (i5 + n8)) && ltI (wrapI IntKind.i64 (i5 + n8)) (↑(ByteArray.size g0) : Int))
    (cond (byI g0 (wrapI IntKind.i64 (i5 + n8)) == 42)
     (G (relems_q14 g0 i5 (wrapI IntKind.i64 (n8 + 1)) h0))
     (cond (ltI 2 n8)
      (some [(.lst 45 []), (.bool (false))])
      (cond (roomN (List.length h0 + 1) 40)
       (G (relems_q3 g0 (wrapI IntKind.i64 (i5 + n8)) (h0 ++ [[L.int IntKind.i64 (wrapI IntKind.i64 (2 + n8)), L.int IntKind.u8 0, L.bool false, L.lst 63 []]])))
       none)))
    none)
   (cond (ltI 2 n8)
    (some [(.lst 45 []), (.bool (false))])
    (cond (roomN (List.length h0 + 1) 40)
     (G (relems_q3 g0 (wrapI IntKind.i64 (i5 + n8)) (h0 ++ [[L.int IntKind.i64 (wrapI IntKind.i64 (2 + n8)), L.int IntKind.u8 0, L.bool false, L.lst 63 []]])))
     none))) := by kernel_rfl

/-! codesearch/codesearchref02.Right -/
noncomputable def rRight_q4 (g0 : ByteArray) (i3 : Int) : Req := .point 13 [] (todoAt Tryd.prog 13 4) ⟨[(.lf (.str g0)), an, an, (.lf (.int IntKind.i64 i3)), an, an, an, an, an, an, an, an, an, an, an, an, an, an, an, an, an, an, an, an, an, an, an, an, an, an, an, an], []⟩
theorem rRight_e (G : Req → R) (g0 : ByteArray) : runB (cfg [k_relems]) G (.enter 13 [(.lf (.str (g0)))] []) =
  (cond (ltI 60 (↑(ByteArray.size g0) : Int))
   (some [(.int IntKind.i64 (4))])
   (G (rRight_q4 g0 0))) := by kernel_rfl
theorem rRight_p4 (G : Req → R) (g0 : ByteArray) (i3 : Int) : runB (cfg [k_relems]) G (rRight_q4 g0 i3) =
  (cond (ltI i3 (↑(ByteArray.size g0) : Int))
   (cond (leI 0 i3 && ltI i3 (↑(ByteArray.size g0) : Int))
    (cond (ltI (byI g0 i3) 33)
     (some [(.int IntKind.i64 (3))])
     (cond (leI 0 i3 && ltI i3 (↑(ByteArray.size g0) : Int))
      (cond (ltI 126 (byI g0 i3))
       (some [(.int IntKind.i64 (3))])
       (G (rRight_q4 g0 (wrapI IntKind.i64 (i3 + 1)))))
      none))
    none)
   (cond (Nat.ble (ByteArray.size g0) 1000000)
    (cond (!Option.isSome (parseE false (bl g0)))
     (some [(.int IntKind.i64 (3))])
     (some [(.int IntKind.i64 (0))]))
    none)) := by kernel_rfl

/-! codesearch/glob.Match -/
noncomputable def Match_q7 (p1 : ByteArray) (x28 : Int) (x29 : Int) (h0 : List (List L)) (h1 : List (List L)) : Req := .point 16 [] (todoAt Tryd.prog 16 7) ⟨[an, (.lf (.str p1)), an, an, an, an, an, (.lf (.row 0)), an, an, an, an, an, an, an, an, an, an, an, an, an, an, an, an, an, an, an, (.lf (.row 1)), (.lf (.int IntKind.i64 x28)), (.lf (.int IntKind.i64 x29)), an, an, an, an, an, an, an, an, an, an, an, an, an, an, an, an, an, an, an, an, an, an, an, an, an, an, an, an, an, an, an, an, an, an, an, an, an, an, an, an, an, an, an, an, an, an, an, an, an, an, an, an, an, an, an, an, an, an, an, an, an, an, an, an, an, an, an, an, an, an, an, an, an, an, an], [(.row 4 h0 true), (.row 40 h1 true)]⟩
noncomputable def Match_q11 (p1 : ByteArray) (x28 : Int) (x29 : Int) (x38 : Int) (x39 : Int) (h0_0 : Int) (h0_1 : Int) (h0_2 : Bool) (h0_3 : List (List L)) (h1 : List (List L)) (h2 : List (List L)) (h3 : List (List L)) : Req := .point 16 [] (todoAt Tryd.prog 16 11) ⟨[an, (.lf (.str p1)), an, an, an, an, an, an, an, (.lf (.ptr 0 0)), (.lf (.row 1)), an, an, an, an, an, an, an, an, an, an, an, an, an, an, an, an, (.lf (.row 2)), (.lf (.int IntKind.i64 x28)), (.lf (.int IntKind.i64 x29)), an, an, an, an, an, an, an, (.lf (.row 3)), (.lf (.int IntKind.i64 x38)), (.lf (.int IntKind.i64 x39)), an, an, an, an, an, an, an, an, an, an, an, an, an, an, an, an, an, an, an, an, an, an, an, an, an, an, an, an, an, an, an, an, an, an, an, an, an, an, an, an, an, an, an, an, an, an, an, an, an, an, an, an, an, an, an, an, an, an, an, an, an, an, an, an, an], [(.box [(.int IntKind.i64), (.int IntKind.u8), .bool, (.sl 59)] [(.int IntKind.i64 h0_0), (.int IntKind.u8 h0_1), (.bool h0_2), (.lst 59 h0_3)]), (.row 4 h1 true), (.row 40 h2 true), (.row 4 h3 true)]⟩
theorem Match_e (G : Req → R) (g0 : ByteArray) (p1 : ByteArray) : runB (cfg [k_Right, k_parse, k_stands]) G (.enter 16 [(.lf (.str (g0))), (.lf (.str (p1)))] []) =
  (cond (Nat.ble (ByteArray.size g0) 1000000000000)
   (cond (rightE (bl g0) != 0)
    (some [(.bool (false))])
    (cond (Nat.ble (ByteArray.size g0) 1000000)
     (cond (leI 0 (wrapI IntKind.i64 ((↑(ByteArray.size p1) : Int) + 1)) && leI (wrapI IntKind.i64 ((↑(ByteArray.size p1) : Int) + 1)) (wrapI IntKind.i64 ((↑(ByteArray.size p1) : Int) + 1)) && (leI (wrapI IntKind.i64 ((↑(ByteArray.size p1) : Int) + 1) * (↑1 : Int)) 140737488355328 && leI (wrapI IntKind.i64 ((↑(ByteArray.size p1) : Int) + 1)) 140737488355328))
      (cond (ltI 0 (↑(List.length (List.replicate (Int.toNat (wrapI IntKind.i64 ((↑(ByteArray.size p1) : Int) + 1))) [L.bool false])) : Int))
       (G (Match_q7 p1 ((↑(List.length (List.map encG (Option.getD (parseE true (bl g0)) []))) : Int)) 0 (List.set (List.replicate (Int.toNat (wrapI IntKind.i64 ((↑(ByteArray.size p1) : Int) + 1))) [L.bool false]) 0 (splice 0 [L.bool true] (atL (List.replicate (Int.toNat (wrapI IntKind.i64 ((↑(ByteArray.size p1) : Int) + 1))) [L.bool false]) 0))) (List.map encG (Option.getD (parseE true (bl g0)) []))))
       none)
      none)
     none))
   none) := by kernel_rfl
theorem Match_p7 (G : Req → R) (p1 : ByteArray) (x28 : Int) (x29 : Int) (h0 : List (List L)) (h1 : List (List L)) : runB (cfg [k_Right, k_parse, k_stands]) G (Match_q7 p1 x28 x29 h0 h1) =
  (cond (ltI x29 x28)
   (cond (leI 0 x29 && ltI x29 (↑(List.length h1) : Int))
    (cond (leI 0 (wrapI IntKind.i64 ((↑(ByteArray.size p1) : Int) + 1)) && leI (wrapI IntKind.i64 ((↑(ByteArray.size p1) : Int) + 1)) (wrapI IntKind.i64 ((↑(ByteArray.size p1) : Int) + 1)) && (leI (wrapI IntKind.i64 ((↑(ByteArray.size p1) : Int) + 1) * (↑1 : Int)) 140737488355328 && leI (wrapI IntKind.i64 ((↑(ByteArray.size p1) : Int) + 1)) 140737488355328))
     (G (Match_q11 p1 x28 x29 ((↑(List.length h0) : Int)) 0 (cI 0 (atL h1 x29)) (cI 1 (atL h1 x29)) (cO 2 (atL h1 x29)) (cX 3 (atL h1 x29)) (List.replicate (Int.toNat (wrapI IntKind.i64 ((↑(ByteArray.size p1) : Int) + 1))) [L.bool false]) h1 h0))
     none)
    none)
   (cond (leI 0 (↑(ByteArray.size p1) : Int) && ltI (↑(ByteArray.size p1) : Int) (↑(List.length h0) : Int))
    (some [(.bool (cO 0 (atL h0 (↑(ByteArray.size p1) : Int))))])
    none)) := by kernel_rfl
theorem Match_p11 (G : Req → R) (p1 : ByteArray) (x28 : Int) (x29 : Int) (x38 : Int) (x39 : Int) (h0_0 : Int) (h0_1 : Int) (h0_2 : Bool) (h0_3 : List (List L)) (h1 : List (List L)) (h2 : List (List L)) (h3 : List (List L)) : runB (cfg [k_Right, k_parse, k_stands]) G (Match_q11 p1 x28 x29 x38 x39 h0_0 h0_1 h0_2 h0_3 h1 h2 h3) =
  (cond (ltI x39 x38)
   (cond (leI 0 x39 && ltI x39 (↑(List.length h3) : Int))
    (cond (h0_0 == 1)
     (cond (cO 0 (atL h3 x39))
      (cond (leI 0 x39 && ltI x39 (↑(List.length h1) : Int))
       (G (Match_q11 p1 x28 x29 x38 (wrapI IntKind.i64 (x39 + 1)) h0_0 h0_1 h0_2 h0_3 (List.set h1 (Int.toNat x39) (splice 0 [L.bool true] (atL h1 x39))) h2 h3))
       none)
      (cond (ltI 0 x39)
       (cond (leI 0 (wrapI IntKind.i64 (x39 - 1)) && ltI (wrapI IntKind.i64 (x39 - 1)) (↑(List.length h1) : Int))
        (cond (cO 0 (atL h1 (wrapI IntKind.i64 (x39 - 1))))
         (cond (h0_0 == 1)
          (cond (leI 0 x39 && ltI x39 (↑(List.length h1) : Int))
           (G (Match_q11 p1 x28 x29 x38 (wrapI IntKind.i64 (x39 + 1)) h0_0 h0_1 h0_2 h0_3 (List.set h1 (Int.toNat x39) (splice 0 [L.bool true] (atL h1 x39))) h2 h3))
           none)
          (cond (leI 0 (wrapI IntKind.i64 (x39 - 1)) && ltI (wrapI IntKind.i64 (x39 - 1)) (↑(ByteArray.size p1) : Int))
           (cond (leI 0 x39 && ltI x39 (↑(List.length h1) : Int))
            (G (Match_q11 p1 x28 x29 x38 (wrapI IntKind.i64 (x39 + 1)) h0_0 h0_1 h0_2 h0_3 (List.set h1 (Int.toNat x39) (splice 0 [L.bool (byI p1 (wrapI IntKind.i64 (x39 - 1)) != 47)] (atL h1 x39))) h2 h3))
            none)
           none))
         (cond (leI 0 x39 && ltI x39 (↑(List.length h1) : Int))
          (G (Match_q11 p1 x28 x29 x38 (wrapI IntKind.i64 (x39 + 1)) h0_0 h0_1 h0_2 h0_3 (List.set h1 (Int.toNat x39) (splice 0 [L.bool false] (atL h1 x39))) h2 h3))
          none))
        none)
       (cond (leI 0 x39 && ltI x39 (↑(List.length h1) : Int))
        (G (Match_q11 p1 x28 x29 x38 (wrapI IntKind.i64 (x39 + 1)) h0_0 h0_1 h0_2 h0_3 (List.set h1 (Int.toNat x39) (splice 0 [L.bool false] (atL h1 x39))) h2 h3))
        none)))
     (cond (h0_0 == 2)
      (cond (cO 0 (atL h3 x39))
       (cond (leI 0 x39 && ltI x39 (↑(List.length h1) : Int))
        (G (Match_q11 p1 x28 x29 x38 (wrapI IntKind.i64 (x39 + 1)) h0_0 h0_1 h0_2 h0_3 (List.set h1 (Int.toNat x39) (splice 0 [L.bool true] (atL h1 x39))) h2 h3))
        none)
       (cond (ltI 0 x39)
        (cond (leI 0 (wrapI IntKind.i64 (x39 - 1)) && ltI (wrapI IntKind.i64 (x39 - 1)) (↑(List.length h1) : Int))
         (cond (cO 0 (atL h1 (wrapI IntKind.i64 (x39 - 1))))
          (cond (h0_0 == 1)
           (cond (leI 0 x39 && ltI x39 (↑(List.length h1) : Int))
            (G (Match_q11 p1 x28 x29 x38 (wrapI IntKind.i64 (x39 + 1)) h0_0 h0_1 h0_2 h0_3 (List.set h1 (Int.toNat x39) (splice 0 [L.bool true] (atL h1 x39))) h2 h3))
            none)
           (cond (leI 0 (wrapI IntKind.i64 (x39 - 1)) && ltI (wrapI IntKind.i64 (x39 - 1)) (↑(ByteArray.size p1) : Int))
            (cond (leI 0 x39 && ltI x39 (↑(List.length h1) : Int))
             (G (Match_q11 p1 x28 x29 x38 (wrapI IntKind.i64 (x39 + 1)) h0_0 h0_1 h0_2 h0_3 (List.set h1 (Int.toNat x39) (splice 0 [L.bool (byI p1 (wrapI IntKind.i64 (x39 - 1)) != 47)] (atL h1 x39))) h2 h3))
             none)
            none))
          (cond (leI 0 x39 && ltI x39 (↑(List.length h1) : Int))
           (G (Match_q11 p1 x28 x29 x38 (wrapI IntKind.i64 (x39 + 1)) h0_0 h0_1 h0_2 h0_3 (List.set h1 (Int.toNat x39) (splice 0 [L.bool false] (atL h1 x39))) h2 h3))
           none))
         none)
        (cond (leI 0 x39 && ltI x39 (↑(List.length h1) : Int))
         (G (Match_q11 p1 x28 x29 x38 (wrapI IntKind.i64 (x39 + 1)) h0_0 h0_1 h0_2 h0_3 (List.set h1 (Int.toNat x39) (splice 0 [L.bool false] (atL h1 x39))) h2 h3))
         none)))
      (cond (cO 0 (atL h3 x39))
       (cond (ltI x39 (↑(ByteArray.size p1) : Int))
        (cond (leI 0 x39 && ltI x39 (↑(ByteArray.size p1) : Int))
         (cond (Nat.ble (List.length h0_3) 1000000)
          (cond (standsR h0_0 h0_1 h0_2 h0_3 (byI p1 x39))
           (cond (leI 0 (wrapI IntKind.i64 (x39 + 1)) && ltI (wrapI IntKind.i64 (x39 + 1)) (↑(List.length h1) : Int))
            (G (Match_q11 p1 x28 x29 x38 (wrapI IntKind.i64 (x39 + 1)) h0_0 h0_1 h0_2 h0_3 (List.set h1 (Int.toNat (wrapI IntKind.i64 (x39 + 1))) (splice 0 [L.bool true] (atL h1 (wrapI IntKind.i64 (x39 + 1))))) h2 h3))
            none)
           (G (Match_q11 p1 x28 x29 x38 (wrapI IntKind.i64 (x39 + 1)) h0_0 h0_1 h0_2 h0_3 h1 h2 h3)))
          none)
         none)
        (G (Match_q11 p1 x28 x29 x38 (wrapI IntKind.i64 (x39 + 1)) h0_0 h0_1 h0_2 h0_3 h1 h2 h3)))
       (G (Match_q11 p1 x28 x29 x38 (wrapI IntKind.i64 (x39 + 1)) h0_0 h0_1 h0_2 h0_3 h1 h2 h3)))))
    none)
   (G (Match_q7 p1 x28 (wrapI IntKind.i64 (x29 + 1)) h1 h2))) := by kernel_rfl

/-! codesearch/codesearchref02.step -/
noncomputable def step_q3 (p1 : ByteArray) (from2 : List (List L)) (i8 : Int) (h0_0 : Int) (h0_1 : Int) (h0_2 : Bool) (h0_3 : List (List L)) (h1 : List (List L)) : Req := .point 33 [] (todoAt Tryd.prog 33 3) ⟨[an, (.lf (.str p1)), (.lf (.lst 4 from2)), (.lf (.ptr 0 0)), an, an, an, (.lf (.row 1)), (.lf (.int IntKind.i64 i8)), an, an, an, an, an, an, an, an, an, an, an, an, an, an, an, an, an, an, an, an, an, an, an, an, an, an, an, an, an, an, an, an, an, an, an, an, an, an, an, an, an, an, an, an, an, an, an, an, an, an, an, an, an, an, an, an, an, an, an, an, an, an, an, an, an], [(.box [(.int IntKind.i64), (.int IntKind.u8), .bool, (.sl 63)] [(.int IntKind.i64 h0_0), (.int IntKind.u8 h0_1), (.bool h0_2), (.lst 63 h0_3)]), (.row 4 h1 true)]⟩
noncomputable def step_q9 (p1 : ByteArray) (from2 : List (List L)) (i8 : Int) (k9 : Int) (h0_0 : Int) (h0_1 : Int) (h0_2 : Bool) (h0_3 : List (List L)) (h1 : List (List L)) : Req := .point 33 [] (todoAt Tryd.prog 33 9) ⟨[an, (.lf (.str p1)), (.lf (.lst 4 from2)), (.lf (.ptr 0 0)), an, an, an, (.lf (.row 1)), (.lf (.int IntKind.i64 i8)), (.lf (.int IntKind.i64 k9)), an, an, an, an, an, an, an, an, an, an, an, an, an, an, an, an, an, an, an, an, an, an, an, an, an, an, an, an, an, an, an, an, an, an, an, an, an, an, an, an, an, an, an, an, an, an, an, an, an, an, an, an, an, an, an, an, an, an, an, an, an, an, an, an], [(.box [(.int IntKind.i64), (.int IntKind.u8), .bool, (.sl 63)] [(.int IntKind.i64 h0_0), (.int IntKind.u8 h0_1), (.bool h0_2), (.lst 63 h0_3)]), (.row 4 h1 true)]⟩
theorem step_e (G : Req → R) (e0_0 : Int) (e0_1 : Int) (e0_2 : Bool) (e0_3 : List (List L)) (p1 : ByteArray) (from2 : List (List L)) : runB (cfg [k_one]) G (.enter 33 [(.agg [(.int IntKind.i64 (e0_0)), (.int IntKind.u8 (e0_1)), (.bool (e0_2)), (.lst 63 e0_3)]), (.lf (.str (p1))), (.lf (.lst 4 from2))] []) =
  (cond (leI 0 (wrapI IntKind.i64 ((↑(ByteArray.size p1) : Int) + 1)) && leI (wrapI IntKind.i64 ((↑(ByteArray.size p1) : Int) + 1)) (wrapI IntKind.i64 ((↑(ByteArray.size p1) : Int) + 1)) && (leI (wrapI IntKind.i64 ((↑(ByteArray.size p1) : Int) + 1) * (↑1 : Int)) 140737488355328 && leI (wrapI IntKind.i64 ((↑(ByteArray.size p1) : Int) + 1)) 140737488355328))
   (G (step_q3 p1 from2 0 e0_0 e0_1 e0_2 e0_3 (List.replicate (Int.toNat (wrapI IntKind.i64 ((↑(ByteArray.size p1) : Int) + 1))) [L.bool false])))
   none) := by kernel_rfl
theorem step_p3 (G : Req → R) (p1 : ByteArray) (from2 : List (List L)) (i8 : Int) (h0_0 : Int) (h0_1 : Int) (h0_2 : Bool) (h0_3 : List (List L)) (h1 : List (List L)) : runB (cfg [k_one]) G (step_q3 p1 from2 i8 h0_0 h0_1 h0_2 h0_3 h1) =
  (cond (leI i8 (↑(ByteArray.size p1) : Int))
   (cond (leI 0 i8 && ltI i8 (↑(List.length from2) : Int))
    (cond (!cO 0 (atL from2 i8))
     (G (step_q3 p1 from2 (wrapI IntKind.i64 (i8 + 1)) h0_0 h0_1 h0_2 h0_3 h1))
     (cond (h0_0 == 3)
      (cond (leI 0 i8 && ltI i8 (↑(List.length h1) : Int))
       (G (step_q9 p1 from2 i8 i8 h0_0 h0_1 h0_2 h0_3 (List.set h1 (Int.toNat i8) (splice 0 [L.bool true] (atL h1 i8)))))
       none)
      (cond (h0_0 == 4)
       (cond (leI 0 i8 && ltI i8 (↑(List.length h1) : Int))
        (G (step_q9 p1 from2 i8 i8 h0_0 h0_1 h0_2 h0_3 (List.set h1 (Int.toNat i8) (splice 0 [L.bool true] (atL h1 i8)))))
        none)
       (cond (ltI i8 (↑(ByteArray.size p1) : Int))
        (cond (leI 0 i8 && ltI i8 (↑(ByteArray.size p1) : Int))
         (cond (Nat.ble (List.length h0_3) 1000000)
          (cond (oneR h0_0 h0_1 h0_2 h0_3 (byI p1 i8))
           (cond (leI 0 (wrapI IntKind.i64 (i8 + 1)) && ltI (wrapI IntKind.i64 (i8 + 1)) (↑(List.length h1) : Int))
            (G (step_q3 p1 from2 (wrapI IntKind.i64 (i8 + 1)) h0_0 h0_1 h0_2 h0_3 (List.set h1 (Int.toNat (wrapI IntKind.i64 (i8 + 1))) (splice 0 [L.bool true] (atL h1 (wrapI IntKind.i64 (i8 + 1)))))))
            none)
           (G (step_q3 p1 from2 (wrapI IntKind.i64 (i8 + 1)) h0_0 h0_1 h0_2 h0_3 h1)))
          none)
         none)
        (G (step_q3 p1 from2 (wrapI IntKind.i64 (i8 + 1)) h0_0 h0_1 h0_2 h0_3 h1))))))
    none)
   (some [(.lst 4 h1)])) := by kernel_rfl
theorem step_p9 (G : Req → R) (p1 : ByteArray) (from2 : List (List L)) (i8 : Int) (k9 : Int) (h0_0 : Int) (h0_1 : Int) (h0_2 : Bool) (h0_3 : List (List L)) (h1 : List (List L)) : runB (cfg [k_one]) G (step_q9 p1 from2 i8 k9 h0_0 h0_1 h0_2 h0_3 h1) =
  (cond (ltI k9 (↑(ByteArray.size p1) : Int))
   (cond (h0_0 == 4)
    (cond (leI 0 (wrapI IntKind.i64 (k9 + 1)) && ltI (wrapI IntKind.i64 (k9 + 1)) (↑(List.length h1) : Int))
     (G (step_q9 p1 from2 i8 (wrapI IntKind.i64 (k9 + 1)) h0_0 h0_1 h0_2 h0_3 (List.set h1 (Int.toNat (wrapI IntKind.i64 (k9 + 1))) (splice 0 [L.bool true] (atL h1 (wrapI IntKind.i64 (k9 + 1)))))))
     none)
    (cond (leI 0 k9 && ltI k9 (↑(ByteArray.size p1) : Int))
     (cond (byI p1 k9 != 47)
      (cond (leI 0 (wrapI IntKind.i64 (k9 + 1)) && ltI (wrapI IntKind.i64 (k9 + 1)) (↑(List.length h1) : Int))
       (G (step_q9 p1 from2 i8 (wrapI IntKind.i64 (k9 + 1)) h0_0 h0_1 h0_2 h0_3 (List.set h1 (Int.toNat (wrapI IntKind.i64 (k9 + 1))) (splice 0 [L.bool true] (atL h1 (wrapI IntKind.i64 (k9 + 1)))))))
       none)
      (G (step_q3 p1 from2 (wrapI IntKind.i64 (i8 + 1)) h0_0 h0_1 h0_2 h0_3 h1)))
     none))
   (G (step_q3 p1 from2 (wrapI IntKind.i64 (i8 + 1)) h0_0 h0_1 h0_2 h0_3 h1))) := by kernel_rfl

/-! codesearch/codesearchref02.Match -/
noncomputable def rMatch_q7 (p1 : ByteArray) (i8 : Int) (h0 : List (List L)) (h1 : List (List L)) : Req := .point 17 [] (todoAt Tryd.prog 17 7) ⟨[an, (.lf (.str p1)), an, an, an, (.lf (.row 0)), an, (.lf (.row 1)), (.lf (.int IntKind.i64 i8)), an, an, an, an, an, an, an, an, an, an, an, an, an, an, an, an, an, an, an, an, an, an, an, an, an, an, an, an, an, an, an, an], [(.row 45 h0 true), (.row 4 h1 true)]⟩
theorem rMatch_e (G : Req → R) (g0 : ByteArray) (p1 : ByteArray) : runB (cfg [k_rRight, k_relems, k_step]) G (.enter 17 [(.lf (.str (g0))), (.lf (.str (p1)))] []) =
  (cond (Nat.ble (ByteArray.size g0) 1000000000000)
   (cond (rightE (bl g0) != 0)
    (some [(.bool (false))])
    (cond (Nat.ble (ByteArray.size g0) 1000000)
     (cond (leI 0 (wrapI IntKind.i64 ((↑(ByteArray.size p1) : Int) + 1)) && leI (wrapI IntKind.i64 ((↑(ByteArray.size p1) : Int) + 1)) (wrapI IntKind.i64 ((↑(ByteArray.size p1) : Int) + 1)) && (leI (wrapI IntKind.i64 ((↑(ByteArray.size p1) : Int) + 1) * (↑1 : Int)) 140737488355328 && leI (wrapI IntKind.i64 ((↑(ByteArray.size p1) : Int) + 1)) 140737488355328))
      (cond (ltI 0 (↑(List.length (List.replicate (Int.toNat (wrapI IntKind.i64 ((↑(ByteArray.size p1) : Int) + 1))) [L.bool false])) : Int))
       (G (rMatch_q7 p1 0 (List.map encR (Option.getD (parseE false (bl g0)) [])) (List.set (List.replicate (Int.toNat (wrapI IntKind.i64 ((↑(ByteArray.size p1) : Int) + 1))) [L.bool false]) 0 (splice 0 [L.bool true] (atL (List.replicate (Int.toNat (wrapI IntKind.i64 ((↑(ByteArray.size p1) : Int) + 1))) [L.bool false]) 0)))))
       none)
      none)
     none))
   none) := by kernel_rfl
theorem rMatch_p7 (G : Req → R) (p1 : ByteArray) (i8 : Int) (h0 : List (List L)) (h1 : List (List L)) : runB (cfg [k_rRight, k_relems, k_step]) G (rMatch_q7 p1 i8 h0 h1) =
  (cond (ltI i8 (↑(List.length h0) : Int))
   (cond (leI 0 i8 && ltI i8 (↑(List.length h0) : Int))
    (cond (Nat.ble (List.length (cX 3 (atL h0 i8))) 1000000 && (Nat.ble (ByteArray.size p1) 1000000 && Nat.beq (List.length h1) (ByteArray.size p1 + 1)))
     (G (rMatch_q7 p1 (wrapI IntKind.i64 (i8 + 1)) h0 (encF (stepR (cI 0 (atL h0 i8)) (cI 1 (atL h0 i8)) (cO 2 (atL h0 i8)) (cX 3 (atL h0 i8)) (bl p1) (rowF h1)) (ByteArray.size p1 + 1))))
     none)
    none)
   (cond (leI 0 (↑(ByteArray.size p1) : Int) && ltI (↑(ByteArray.size p1) : Int) (↑(List.length h1) : Int))
    (some [(.bool (cO 0 (atL h1 (↑(ByteArray.size p1) : Int))))])
    none)) := by kernel_rfl

end Go.Ab
namespace Go.Ab
open Go.Proofs

theorem byI_0 (l : List UInt8) : byI (mk l) 0 = ((l.getD 0 0).toNat : Int) := byI_mk l 0
theorem byI_1 (l : List UInt8) : byI (mk l) 1 = ((l.getD 1 0).toNat : Int) := byI_mk l 1
theorem byI_2 (l : List UInt8) : byI (mk l) 2 = ((l.getD 2 0).toNat : Int) := byI_mk l 2
theorem ext_len (l : List UInt8) (i : Nat) : (mk l).extract i l.length = mk (l.drop i) := by rw [ext_mk, List.take_length]
theorem u8_eq {b : UInt8} {n : Nat} (h : n < 256) : ((b.toNat : Int) == (n : Int)) = (b == UInt8.ofNat n) := by
  rw [Bool.eq_iff_iff, beq_iff_eq, beq_iff_eq]
  constructor
  · intro e
    apply UInt8.toNat_inj.1
    rw [UInt8.toNat_ofNat_of_lt' h]; omega
  · rintro rfl
    rw [UInt8.toNat_ofNat_of_lt' h]
theorem encRs_len (l : List (UInt8 × UInt8)) : (encRs l).length = l.length := by simp [encRs]
theorem encRs_app (l : List (UInt8 × UInt8)) (a b : UInt8) : encRs l ++ [[.int .u8 (a.toNat : Int), .int .u8 (b.toNat : Int)]] = encRs (l ++ [(a, b)]) := by simp [encRs]
def setRes (nt : Bool) (acc : List (UInt8 × UInt8)) (l : List UInt8) : List L :=
  [.int .i64 4, .int .u8 0, .bool nt, .lst 59 (encRs (acc ++ (rangesP l).1)), .bool ((rangesP l).2 && !(acc ++ (rangesP l).1).isEmpty)]
theorem set_loop : ∀ (k : Nat) (l : List UInt8) (nt : Bool) (acc : List (UInt8 × UInt8)), l.length ≤ k → acc.length + l.length ≤ 1000000 →
    Runs (cfg []) (set_q4 (mk l) 0 0 false 4 0 nt [] (encRs acc)) (setRes nt acc l)
  | k, [], nt, acc, hk, hl => by
    refine Runs.by (set_p4 · _ _ _ _ _ _ _ _ _) ?_
    have e : (([] : List UInt8) == []) = true := rfl
    simp only [toL_mk, e, Bool.not_true, cond_false, setRes, rangesP, List.append_nil, Bool.true_and, encRs_len]
    have : ltI 0 (acc.length : Int) = !acc.isEmpty := by
      cases acc
      · rfl
      · rw [ev_lt_t (by simp)]; rfl
    rw [this]
    exact .ret
  | k, [a], nt, acc, hk, hl => by
    refine Runs.by (set_p4 · _ _ _ _ _ _ _ _ _) ?_
    have e : (([a] : List UInt8) == []) = false := rfl
    have hlen : [a].length = 1 := rfl
    have h0 : List.getD [a] 0 0 = a := rfl
    simp (disch := omega) only [toL_mk, e, Bool.not_false, cond_true, cond_false, size_mk, ext_len, byI_0, h0, ev_lt_t, ev_lt_f, ev_le_t, encRs_len, roomN_t, encRs_app, List.drop_succ_cons, List.drop_nil, List.drop_zero]
    have ih := set_loop (k - 1) [] nt (acc ++ [(a, a)]) (by simp) (by simp at hl ⊢; omega)
    have e2 : setRes nt (acc ++ [(a, a)]) [] = setRes nt acc [a] := by simp [setRes, rangesP]
    rw [e2] at ih
    exact .go ih
  | k, [a, b], nt, acc, hk, hl => by
    refine Runs.by (set_p4 · _ _ _ _ _ _ _ _ _) ?_
    have e : (([a, b] : List UInt8) == []) = false := rfl
    have hlen : [a, b].length = 2 := rfl
    have h0 : List.getD [a, b] 0 0 = a := rfl
    simp (disch := omega) only [toL_mk, e, Bool.not_false, cond_true, cond_false, size_mk, ext_len, byI_0, h0, ev_lt_t, ev_lt_f, ev_le_t, encRs_len, roomN_t, encRs_app, List.drop_succ_cons, List.drop_nil, List.drop_zero]
    have ih := set_loop (k - 1) [b] nt (acc ++ [(a, a)]) (by simp at hk ⊢; omega) (by simp at hl ⊢; omega)
    have e2 : setRes nt (acc ++ [(a, a)]) [b] = setRes nt acc [a, b] := by simp [setRes, rangesP]
    rw [e2] at ih
    exact .go ih
  | k, a :: d :: b :: r, nt, acc, hk, hl => by
    refine Runs.by (set_p4 · _ _ _ _ _ _ _ _ _) ?_
    have e : ((a :: d :: b :: r : List UInt8) == []) = false := rfl
    have hlen : (a :: d :: b :: r).length = r.length + 3 := rfl
    have hlen2 : (d :: b :: r).length = r.length + 2 := rfl
    have h0 : List.getD (a :: d :: b :: r) 0 0 = a := rfl
    have h1 : List.getD (a :: d :: b :: r) 1 0 = d := rfl
    have h2 : List.getD (a :: d :: b :: r) 2 0 = b := rfl
    have h45 : ((d.toNat : Int) == 45) = (d == 45) := u8_eq (n := 45) (by decide)
    simp (disch := omega) only [toL_mk, e, Bool.not_false, cond_true, cond_false, size_mk, ext_len, byI_0, byI_1, byI_2, h0, h1, h2, h45, ev_lt_t, ev_lt_f, ev_le_t, encRs_len, roomN_t, encRs_app, List.drop_succ_cons, List.drop_nil, List.drop_zero]
    by_cases hd : d = 45
    · subst hd
      have ed : ((45 : UInt8) == 45) = true := rfl
      rw [ed]
      simp only [cond_true]
      by_cases hba : b < a
      · have : (b.toNat : Int) < (a.toNat : Int) := by have := UInt8.lt_iff_toNat_lt.1 hba; omega
        simp (disch := omega) only [ev_lt_t, cond_true]
        have e2 : [L.int .i64 4, .int .u8 0, .bool nt, .lst 59 (encRs acc), .bool false] = setRes nt acc (a :: 45 :: b :: r) := by simp [setRes, rangesP, hba]
        rw [e2]
        exact .ret
      · have : ¬ (b.toNat : Int) < (a.toNat : Int) := by rw [UInt8.lt_iff_toNat_lt] at hba; omega
        simp (disch := omega) only [ev_lt_f, cond_false]
        have ih := set_loop (k - 3) r nt (acc ++ [(a, b)]) (by omega) (by simp at hl ⊢; omega)
        have e2 : setRes nt (acc ++ [(a, b)]) r = setRes nt acc (a :: 45 :: b :: r) := by simp [setRes, rangesP, hba]
        rw [e2] at ih
        exact .go ih
    · have ed : (d == 45) = false := by simpa using hd
      rw [ed]
      simp only [cond_false]
      have ih := set_loop (k - 1) (d :: b :: r) nt (acc ++ [(a, a)]) (by omega) (by simp at hl ⊢; omega)
      have e2 : setRes nt (acc ++ [(a, a)]) (d :: b :: r) = setRes nt acc (a :: d :: b :: r) := by
        rw [setRes, setRes]
        conv => rhs; rw [rangesP]
        simp [hd]
      rw [e2] at ih
      exact .go ih
  termination_by k l => l.length
theorem set_holds : Holds k_set := con_run (xs := []) hold0 fun aa hp r h => by
  split at h
  case h_2 => cases h
  rename_i s
  obtain ⟨g, rfl⟩ := xo h
  rw [Nat.ble_eq] at g
  obtain ⟨l, rfl⟩ := str_cases s
  rw [size_mk] at g
  refine Runs.by (set_e · _) ?_
  have e2 : ∀ nt l, encG (.set nt (rangesP l).1) ++ [.bool ((rangesP l).2 && !(rangesP l).1.isEmpty)] = setRes nt [] l := fun nt l => by simp [setRes, encG]
  unfold setE setOk
  rw [bl_mk, e2]
  cases l with
  | nil =>
    have e : (([] : List UInt8) == []) = true := rfl
    simp only [toL_mk, e, Bool.not_true, cond_false]
    exact .go (set_loop 0 [] false [] (by simp) (by simp))
  | cons b l =>
    have e : ((b :: l : List UInt8) == []) = false := rfl
    have hlen : (b :: l).length = l.length + 1 := rfl
    have h0 : List.getD (b :: l) 0 0 = b := rfl
    have h45 : ((b.toNat : Int) == 33) = (b == 33) := u8_eq (n := 33) (by decide)
    simp (disch := omega) only [toL_mk, e, Bool.not_false, cond_true, cond_false, size_mk, ext_len, byI_0, h0, h45, ev_lt_t, ev_le_t, List.drop_succ_cons, List.drop_zero]
    by_cases hb : b = 33
    · subst hb
      exact .go (set_loop l.length l true [] (Nat.le_refl _) (by simp at g ⊢; omega))
    · have eb : (b == 33) = false := by simpa using hb
      have en : negB (b :: l) = false := by simp [negB, hb]
      rw [eb, en, show bodyB (b :: l) = b :: l by simp [bodyB, en]]
      exact .go (set_loop (l.length + 1) (b :: l) false [] (Nat.le_refl _) (by simpa using g))
end Go.Ab
namespace Go.Ab
open Go.Proofs

theorem ixI_cases (l : List UInt8) (c : UInt8) : (ixI l (c.toNat : Int) = -1 ∧ ∀ b ∈ l, b ≠ c) ∨ ∃ m, m < l.length ∧ ixI l (c.toNat : Int) = (m : Int) ∧ (∀ b ∈ l.take m, b ≠ c) ∧ l[m]? = some c := by
  have e : ixI l (c.toNat : Int) = Lib.indexByte l c := by unfold ixI; simp
  rw [e]
  rcases indexByte_cases l c with ⟨h1, h2, _⟩ | ⟨m, h1, h2, h3, h4, _⟩
  · exact .inl ⟨h1, fun b hb hbc => List.count_eq_zero.1 h2 (hbc ▸ hb)⟩
  · exact .inr ⟨m, h1, h2, h3, h4⟩
theorem ixI_cons_ne (b : UInt8) (l : List UInt8) (h : b ≠ 93) : ixI (b :: l) 93 = if ixI l 93 < 0 then -1 else ixI l 93 + 1 := by
  unfold ixI
  have e : (93 : Int).toNat.toUInt8 = 93 := rfl
  rw [e]
  have hb : (b == 93) = false := by simpa using h
  conv => lhs; unfold Lib.indexByte
  rw [hb]
  have := Lib.indexByte_ge l 93
  simp only [Bool.false_eq_true, if_false]
  by_cases h0 : Lib.indexByte l 93 < 0
  · have : Lib.indexByte l 93 = -1 := by omega
    rw [this]; rfl
  · have : (Lib.indexByte l 93 == -1) = false := by simp; omega
    rw [this, if_neg h0]; rfl
theorem ixI_bound (l : List UInt8) : -1 ≤ ixI l 93 ∧ ixI l 93 < (l.length : Int) := by
  rcases ixI_cases l 93 with ⟨h1, _⟩ | ⟨m, h0, h1, _⟩
  · have h1 : ixI l 93 = -1 := h1
    omega
  · have h1 : ixI l 93 = (m : Int) := h1
    omega
theorem elem1_width {vis : Bool} {g : List UInt8} {e : El} {w : Nat} (h : elem1 vis g = some (e, w)) : 1 ≤ w ∧ w ≤ g.length := by
  unfold elem1 at h
  split at h
  · cases h
  rename_i b r
  have hx := ixI_bound r
  repeat' split at h
  all_goals cases h
  all_goals first
    | (simp only [List.length_cons]; omega)
    | (rename_i h42 _
       cases r with
       | nil => simp at h42
       | cons x r => simp only [List.length_cons]; omega)
theorem parseN_fuel (vis : Bool) : ∀ (n m : Nat) (g : List UInt8), g.length ≤ n → g.length ≤ m → parseN vis n g = parseN vis m g
  | 0, 0, _, _, _ => rfl
  | 0, m + 1, [], _, _ => rfl
  | n + 1, 0, [], _, _ => rfl
  | n + 1, m + 1, [], _, _ => rfl
  | 0, _, _ :: _, h, _ => by simp at h
  | _, 0, _ :: _, _, h => by simp at h
  | n + 1, m + 1, b :: r, h, h' => by
    simp only [parseN, List.isEmpty_cons, Bool.false_eq_true, if_false]
    cases he : elem1 vis (b :: r) with
    | none => rfl
    | some p =>
      obtain ⟨e, w⟩ := p
      obtain ⟨h1, h2⟩ := elem1_width he
      simp only [List.length_cons] at h h'
      have hl : ((b :: r).drop w).length ≤ r.length := by simp only [List.length_drop, List.length_cons]; omega
      simp only
      rw [parseN_fuel vis n m _ (by omega) (by omega)]
theorem parseE_nil (vis : Bool) : parseE vis [] = some [] := rfl
theorem parseE_cons (vis : Bool) (b : UInt8) (r : List UInt8) : parseE vis (b :: r) = match elem1 vis (b :: r) with
    | none => none
    | some (e, w) => (parseE vis ((b :: r).drop w)).map (e :: ·) := by
  unfold parseE
  rw [List.length_cons, parseN]
  simp only [List.isEmpty_cons, Bool.false_eq_true, if_false]
  cases he : elem1 vis (b :: r) with
  | none => rfl
  | some p =>
    obtain ⟨e, w⟩ := p
    obtain ⟨h1, h2⟩ := elem1_width he
    simp only
    rw [parseN_fuel vis r.length ((b :: r).drop w).length _ (by simp only [List.length_drop, List.length_cons]; omega) (Nat.le_refl _)]

def parseRes (acc : List El) (l : List UInt8) : List L := [.lst 40 ((((parseE true l).map (acc ++ ·)).getD []).map encG), .bool (parseE true l).isSome]
theorem parseRes_none {acc : List El} {l : List UInt8} (h : parseE true l = none) : parseRes acc l = [.lst 40 [], .bool false] := by simp [parseRes, h]
theorem parseRes_some {acc : List El} {b : UInt8} {l : List UInt8} {e : El} {w : Nat} (h : elem1 true (b :: l) = some (e, w)) : parseRes acc (b :: l) = parseRes (acc ++ [e]) ((b :: l).drop w) := by
  simp only [parseRes, parseE_cons, h]
  cases parseE true ((b :: l).drop w) <;> simp
theorem encG_app (l : List El) (e : El) : l.map encG ++ [encG e] = (l ++ [e]).map encG := by simp
theorem beq42 (x : UInt8) : ((42 : UInt8) == x) = decide (x = 42) := by rw [Bool.eq_iff_iff, beq_iff_eq, decide_eq_true_eq]; exact eq_comm
theorem pre3 (b : UInt8) (r : List UInt8) : [42, 42, 42].isPrefixOf (b :: r) = (b == 42 && (decide (r.head? = some 42) && decide (r.tail.head? = some 42))) := by
  have hb : (b == 42) = decide (b = 42) := by rw [Bool.eq_iff_iff]; simp
  match r with
  | [] => simp [List.isPrefixOf]
  | [x] => simp [List.isPrefixOf]
  | x :: y :: r => simp only [List.isPrefixOf, beq42, hb]; simp
theorem pre2 (b : UInt8) (r : List UInt8) : [42, 42].isPrefixOf (b :: r) = (b == 42 && decide (r.head? = some 42)) := by
  have hb : (b == 42) = decide (b = 42) := by rw [Bool.eq_iff_iff]; simp
  match r with
  | [] => simp [List.isPrefixOf]
  | x :: r => simp only [List.isPrefixOf, beq42, hb]; simp
theorem parse_loop : ∀ (k : Nat) (l : List UInt8) (acc : List El), l.length ≤ k → acc.length + l.length ≤ 1000000 →
    Runs (cfg [k_HasPre, k_IndexByte, k_set, k_printable]) (parse_q2 (mk l) (acc.map encG)) (parseRes acc l)
  | k, [], acc, hk, hl => by
    refine Runs.by (parse_p2 · _ _) ?_
    have e : (([] : List UInt8) == []) = true := rfl
    simp only [toL_mk, e, Bool.not_true, cond_false]
    exact .ret' (by simp [parseRes, parseE_nil])
  | k, b :: r, acc, hk, hl => by
    refine Runs.by (parse_p2 · _ _) ?_
    have e : ((b :: r : List UInt8) == []) = false := rfl
    have hlen : (b :: r).length = r.length + 1 := rfl
    have h0 : List.getD (b :: r) 0 0 = b := rfl
    have h93 : ((b.toNat : Int) == 93) = (b == 93) := u8_eq (n := 93) (by decide)
    have h42 : ((b.toNat : Int) == 42) = (b == 42) := u8_eq (n := 42) (by decide)
    have h63 : ((b.toNat : Int) == 63) = (b == 63) := u8_eq (n := 63) (by decide)
    have h91 : ((b.toNat : Int) == 91) = (b == 91) := u8_eq (n := 91) (by decide)
    simp (disch := omega) only [toL_mk, e, Bool.not_false, cond_true, cond_false, size_mk, byI_0, h0, h93, h42, h63, h91, ev_lt_t, ev_le_t, ev_blt, Bool.and_true, List.length_map, roomN_t, List.drop_succ_cons, List.drop_zero, bl_mk, pre3, pre2, ext_mk, List.take_length]
    have step : ∀ {e : El} {w : Nat}, elem1 true (b :: r) = some (e, w) → Runs (cfg [k_HasPre, k_IndexByte, k_set, k_printable]) (parse_q2 (mk ((b :: r).drop w)) ((acc.map encG) ++ [encG e])) (parseRes acc (b :: r)) := fun {e w} he => by
      obtain ⟨h1, h2⟩ := elem1_width he
      rw [parseRes_some he, encG_app]
      exact parse_loop (k - 1) ((b :: r).drop w) (acc ++ [e]) (by simp only [List.length_drop]; omega) (by simp only [List.length_drop, List.length_append, List.length_singleton]; omega)
    have fail : elem1 true (b :: r) = none → parseRes acc (b :: r) = [.lst 40 [], .bool false] := fun he => parseRes_none (by rw [parseE_cons, he])
    by_cases v1 : b.toNat < 33
    · simp (disch := omega) only [ev_lt_t, cond_true]
      exact .ret' (fail (by simp [elem1, visB]; omega)).symm
    by_cases v2 : 126 < b.toNat
    · simp (disch := omega) only [ev_lt_t, ev_lt_f, cond_true, cond_false]
      exact .ret' (fail (by simp [elem1, visB]; omega)).symm
    have hv : visB b = true := decide_eq_true (by omega)
    simp (disch := omega) only [ev_lt_f, cond_false]
    by_cases c93 : b = 93
    · subst c93
      exact .ret' (fail (by simp [elem1, hv])).symm
    have e93 : (b == 93) = false := by simpa using c93
    simp only [e93, cond_false]
    by_cases c42 : b = 42
    · subst c42
      have e42 : ((42 : UInt8) == 42) = true := rfl
      simp only [e42, Bool.true_and, cond_true]
      by_cases d1 : r.head? = some 42
      · simp (disch := omega) only [decide_eq_true d1, Bool.true_and, cond_true]
        obtain ⟨x, r', rfl⟩ : ∃ x r', r = x :: r' := by cases r with
          | nil => simp at d1
          | cons x r' => exact ⟨x, r', rfl⟩
        have hl2 : (x :: r').length = r'.length + 1 := rfl
        simp (disch := omega) only [ev_le_t, cond_true]
        by_cases d2 : (x :: r').tail.head? = some 42
        · simp only [decide_eq_true d2, cond_true]
          exact .ret' (fail (by simp only [List.tail_cons] at d2; simp only [elem1, hv]; simp [d2]; simpa using d1)).symm
        · simp only [decide_eq_false d2, cond_false]
          exact .go (step (e := .any2) (w := 2) (by simp only [List.tail_cons] at d2; simp only [elem1, hv]; simp [d2]; simpa using d1))
      · simp only [decide_eq_false d1, Bool.false_and, cond_false]
        exact .go (step (e := .any1) (w := 1) (by simp only [elem1, hv]; simp [d1]))
    have e42 : (b == 42) = false := by simpa using c42
    simp only [e42, Bool.false_and, cond_false]
    by_cases c63 : b = 63
    · subst c63
      have e63 : ((63 : UInt8) == 63) = true := rfl
      simp only [e63, cond_true]
      exact .go (step (e := .one) (w := 1) (by simp only [elem1, hv]; simp))
    have e63 : (b == 63) = false := by simpa using c63
    simp only [e63, cond_false]
    by_cases c91 : b = 91
    · subst c91
      have e91 : ((91 : UInt8) == 91) = true := rfl
      have hx := ixI_bound r
      simp only [e91, cond_true, ixI_cons_ne 91 r (by decide)]
      by_cases hi : ixI r 93 < 0
      · simp (disch := omega) only [if_pos hi, ev_lt_t, cond_true]
        exact .ret' (fail (by simp only [elem1, hv]; simp [hi])).symm
      · obtain ⟨m, hm⟩ : ∃ m : Nat, ixI r 93 = (m : Int) := ⟨(ixI r 93).toNat, by omega⟩
        have e1 : ((m : Int) + 1).toNat = m + 1 := by omega
        have e2 : ((m : Int) + 1 + 1).toNat = m + 2 := by omega
        have e3 : ((91 :: r).take (m + 1)).drop 1 = r.take m := by simp
        have e4 : (r.take m).length = m := by simp; omega
        have e5 : ((m + 1 : Nat) : Int) = (m : Int) + 1 := by omega
        have hi' : ¬ (m : Int) < 0 := by omega
        simp (disch := omega) only [if_neg hi', ev_lt_f, cond_false, hm, ev_le_t, Bool.and_self, cond_true, w64, e1, e2, e3, e4, e5, ev_blt, roomN_t, bl_mk, size_mk, ext_mk, List.take_length]
        have hel : elem1 true (91 :: r) = if setOk (r.take m) = true ∧ (r.take m).all visB = true then some (setE (r.take m), m + 2) else none := by
          simp only [elem1, hv, hm, if_neg hi', Int.toNat_natCast]; simp
        cases hs : setOk (r.take m) with
        | false =>
          simp only [Bool.not_false, cond_true]
          exact .ret' (fail (by rw [hel, hs]; simp)).symm
        | true =>
          simp only [Bool.not_true, cond_false]
          cases ha : (r.take m).all visB with
          | false =>
            simp only [Bool.not_false, cond_true]
            exact .ret' (fail (by rw [hel, ha]; simp)).symm
          | true =>
            simp only [Bool.not_true, cond_false]
            exact .go (step (e := setE (r.take m)) (w := m + 2) (by rw [hel, hs, ha]; simp))
    have e91 : (b == 91) = false := by simpa using c91
    simp only [e91, cond_false]
    exact .go (step (e := .byte b) (w := 1) (by simp only [elem1, hv]; simp [c93, c42, c63, c91]))
  termination_by k l => l.length
  decreasing_by all_goals (simp only [List.length_drop] at *; omega)
theorem parse_holds : Holds k_parse := con_run (xs := [k_HasPre, k_IndexByte, k_set, k_printable]) (hold1 HasPre_holds (hold1 IndexByte_holds (hold1 set_holds (hold1 printable_holds hold0)))) fun aa hp r h => by
  split at h
  case h_2 => cases h
  rename_i s
  obtain ⟨g, rfl⟩ := xo h
  rw [Nat.ble_eq] at g
  obtain ⟨l, rfl⟩ := str_cases s
  rw [size_mk] at g
  refine Runs.by (parse_e · _) ?_
  have := parse_loop l.length l [] (Nat.le_refl _) (by simpa using g)
  have e : parseRes [] l = [.lst 40 (((parseE true l).getD []).map encG), .bool (parseE true l).isSome] := by
    unfold parseRes
    cases parseE true l <;> simp
  rw [e] at this
  exact .go this
theorem Right_holds : Holds k_Right := cS_of (xs := [k_parse]) (hold1 parse_holds hold0) fun l hl => by
  refine Runs.by (Right_e · _) ?_
  rw [size_mk]
  unfold rightE
  by_cases h : 60 < l.length
  · simp (disch := omega) only [ev_lt_t, cond_true, if_pos h]
    exact .ret
  · simp (disch := omega) only [ev_lt_f, cond_false, if_neg h, ev_blt, cond_true, bl_mk]
    cases (parseE true l).isSome <;> exact .ret
end Go.Ab
namespace Go.Ab
open Go.Proofs

theorem getD_pre (p x : List UInt8) (j : Nat) : (p ++ x).getD (p.length + j) 0 = x.getD j 0 := by simp [List.getD, List.getElem?_append_right]
def rsetRes (nt : Bool) (acc : List (UInt8 × UInt8)) (sub : List UInt8) (e : Int) : List L :=
  [.int .i64 5, .int .u8 0, .bool nt, .lst 63 (encRs (acc ++ (rangesP sub).1)), .int .i64 (if ((rangesP sub).2 && !(acc ++ (rangesP sub).1).isEmpty) = true then e + 1 else -1)]
theorem rset_loop : ∀ (k : Nat) (pre sub post : List UInt8) (nt : Bool) (acc : List (UInt8 × UInt8)), sub.length ≤ k → pre.length + sub.length + post.length ≤ 1000000 → acc.length + sub.length ≤ 1000000 →
    Runs (cfg []) (rset_q11 (mk (pre ++ (sub ++ post))) ((pre.length + sub.length : Nat) : Int) (pre.length : Int) 0 0 false 5 0 nt [] (encRs acc)) (rsetRes nt acc sub ((pre.length + sub.length : Nat) : Int))
  | k, pre, [], post, nt, acc, hk, hl, ha => by
    refine Runs.by (rset_p11 · _ _ _ _ _ _ _ _ _ _ _) ?_
    have hln : ([] : List UInt8).length = 0 := rfl
    simp (disch := omega) only [ev_lt_f, cond_false, hln, Nat.add_zero, encRs_len, w64]
    simp only [rsetRes, rangesP, List.append_nil, Bool.true_and]
    cases acc with
    | nil => exact .ret
    | cons x acc =>
      have : (((x :: acc).length : Int) == 0) = false := by simp; omega
      simp only [this, cond_false]
      exact .ret
  | k, pre, [a], post, nt, acc, hk, hl, ha => by
    refine Runs.by (rset_p11 · _ _ _ _ _ _ _ _ _ _ _) ?_
    have hln : [a].length = 1 := rfl
    have h0 := getD_pre pre ([a] ++ post) 0
    simp only [List.singleton_append, List.getD_cons_zero, Nat.add_zero] at h0
    have hsz : (pre ++ (a :: post)).length = pre.length + post.length + 1 := by simp; omega
    rw [hln] at hl ha
    simp (disch := omega) only [List.singleton_append, hln, byI_mk, h0, size_mk, hsz, ev_lt_t, ev_lt_f, ev_le_t, Bool.and_self, cond_true, cond_false, w64, encRs_len, roomN_t, encRs_app]
    have ih := rset_loop (k - 1) (pre ++ [a]) [] post nt (acc ++ [(a, a)]) (by simp) (by simp; omega) (by simp; omega)
    have e2 : rsetRes nt (acc ++ [(a, a)]) [] = rsetRes nt acc [a] := by funext e; simp [rsetRes, rangesP]
    have e3 : (((pre ++ [a]).length + ([] : List UInt8).length : Nat) : Int) = ((pre.length + 1 : Nat) : Int) := by simp
    have e4 : ((pre ++ [a]).length : Int) = (pre.length : Int) + 1 := by simp
    rw [e2, e3, e4] at ih
    simp only [List.nil_append, List.append_assoc, List.singleton_append] at ih
    exact .go ih
  | k, pre, [a, b], post, nt, acc, hk, hl, ha => by
    refine Runs.by (rset_p11 · _ _ _ _ _ _ _ _ _ _ _) ?_
    have hln : [a, b].length = 2 := rfl
    have h0 := getD_pre pre ([a, b] ++ post) 0
    simp only [List.cons_append, List.nil_append, List.getD_cons_zero, Nat.add_zero] at h0
    have hsz : (pre ++ (a :: b :: post)).length = pre.length + post.length + 2 := by simp; omega
    rw [hln] at hl ha
    simp (disch := omega) only [List.cons_append, List.nil_append, hln, byI_mk, h0, size_mk, hsz, ev_lt_t, ev_lt_f, ev_le_t, Bool.and_self, cond_true, cond_false, w64, encRs_len, roomN_t, encRs_app]
    have ih := rset_loop (k - 1) (pre ++ [a]) [b] post nt (acc ++ [(a, a)]) (by simp at hk ⊢; omega) (by simp; omega) (by simp; omega)
    have e2 : rsetRes nt (acc ++ [(a, a)]) [b] = rsetRes nt acc [a, b] := by funext e; simp [rsetRes, rangesP]
    have e3 : (((pre ++ [a]).length + [b].length : Nat) : Int) = ((pre.length + 2 : Nat) : Int) := by simp; omega
    have e4 : ((pre ++ [a]).length : Int) = (pre.length : Int) + 1 := by simp
    rw [e2, e3, e4] at ih
    simp only [List.nil_append, List.append_assoc, List.singleton_append, List.cons_append] at ih
    exact .go ih
  | k, pre, a :: d :: b :: r, post, nt, acc, hk, hl, ha => by
    refine Runs.by (rset_p11 · _ _ _ _ _ _ _ _ _ _ _) ?_
    have hln : (a :: d :: b :: r).length = r.length + 3 := rfl
    have h0 := getD_pre pre (a :: d :: b :: (r ++ post)) 0
    have h1 := getD_pre pre (a :: d :: b :: (r ++ post)) 1
    have h2 := getD_pre pre (a :: d :: b :: (r ++ post)) 2
    simp only [List.getD_cons_zero, List.getD_cons_succ, Nat.add_zero] at h0 h1 h2
    have hsz : (pre ++ (a :: d :: b :: (r ++ post))).length = pre.length + r.length + post.length + 3 := by simp; omega
    have hi1 : (pre.length : Int) + 1 = ((pre.length + 1 : Nat) : Int) := by omega
    have hi2 : (pre.length : Int) + 2 = ((pre.length + 2 : Nat) : Int) := by omega
    have h45 : ((d.toNat : Int) == 45) = (d == 45) := u8_eq (n := 45) (by decide)
    rw [hln] at hl ha
    simp (disch := omega) only [List.cons_append, hln, byI_mk, w64]
    rw [hi1, hi2]
    simp (disch := omega) only [byI_mk, h0, h1, h2, h45, size_mk, hsz, ev_lt_t, ev_lt_f, ev_le_t, Bool.and_self, cond_true, cond_false, w64, encRs_len, roomN_t, encRs_app]
    by_cases hd : d = 45
    · subst hd
      have ed : ((45 : UInt8) == 45) = true := rfl
      rw [ed]
      simp only [cond_true]
      by_cases hba : b < a
      · have : (b.toNat : Int) < (a.toNat : Int) := by have := UInt8.lt_iff_toNat_lt.1 hba; omega
        simp (disch := omega) only [ev_lt_t, cond_true]
        exact .ret' (by simp [rsetRes, rangesP, hba])
      · have : ¬ (b.toNat : Int) < (a.toNat : Int) := by rw [UInt8.lt_iff_toNat_lt] at hba; omega
        simp (disch := omega) only [ev_lt_f, cond_false]
        have ih := rset_loop (k - 3) (pre ++ [a, 45, b]) r post nt (acc ++ [(a, b)]) (by simp only [hln] at hk; omega) (by simp; omega) (by simp; omega)
        have e2 : rsetRes nt (acc ++ [(a, b)]) r = rsetRes nt acc (a :: 45 :: b :: r) := by funext e; simp [rsetRes, rangesP, hba]
        have e3 : (((pre ++ [a, 45, b]).length + r.length : Nat) : Int) = ((pre.length + (r.length + 3) : Nat) : Int) := by simp; omega
        have e4 : ((pre ++ [a, 45, b]).length : Int) = (pre.length : Int) + 3 := by simp
        rw [e2, e3, e4] at ih
        simp only [List.nil_append, List.append_assoc, List.singleton_append, List.cons_append] at ih
        exact .go ih
    · have ed : (d == 45) = false := by simpa using hd
      rw [ed]
      simp only [cond_false]
      have ih := rset_loop (k - 1) (pre ++ [a]) (d :: b :: r) post nt (acc ++ [(a, a)]) (by simp only [List.length_cons] at hk ⊢; omega) (by simp; omega) (by simp; omega)
      have e2 : rsetRes nt (acc ++ [(a, a)]) (d :: b :: r) = rsetRes nt acc (a :: d :: b :: r) := by
        funext e
        rw [rsetRes, rsetRes]
        conv => rhs; rw [rangesP]
        simp [hd]
      have e3 : (((pre ++ [a]).length + (d :: b :: r).length : Nat) : Int) = ((pre.length + (r.length + 3) : Nat) : Int) := by simp; omega
      have e4 : ((pre ++ [a]).length : Int) = ((pre.length + 1 : Nat) : Int) := by simp
      rw [e2, e3, e4] at ih
      simp only [List.nil_append, List.append_assoc, List.singleton_append, List.cons_append] at ih
      exact .go ih
  termination_by k pre sub => sub.length
def rsetAll (r : List UInt8) (i : Int) : List L := [.int .i64 5, .int .u8 0, .bool (elNeg (rsetE r)), .lst 63 (encRs (elRs (rsetE r))), .int .i64 (rsetN r i)]
/-- The search for the bracket. -/
theorem rset_find (pre r : List UInt8) (hl : pre.length + r.length ≤ 1000000) (hp : 1 ≤ pre.length) : ∀ (m j : Nat), j + m = r.length → (∀ b ∈ r.take j, b ≠ 93) →
    Runs (cfg []) (rset_q3 (mk (pre ++ r)) ((pre.length : Int) - 1) ((pre.length + j : Nat) : Int) 0 0 false 5 0 false [] []) (rsetAll r ((pre.length : Int) - 1))
  | 0, j, hj, hb => by
    refine Runs.by (rset_p3 · _ _ _ _ _ _ _ _ _ _ _) ?_
    have hsz : (pre ++ r).length = pre.length + r.length := by simp
    simp (disch := omega) only [size_mk, hsz, ev_lt_f, ev_le_t, cond_false, cond_true]
    have hx : ixI r 93 = -1 := by
      rcases ixI_cases r 93 with ⟨h1, _⟩ | ⟨m, h0, h1, h2, h3⟩
      · exact h1
      · exact absurd rfl (hb 93 (by rw [List.take_of_length_le (by omega)]; exact List.mem_of_getElem? h3))
    exact .ret' (by simp [rsetAll, rsetE, rsetN, hx, elNeg, elRs, encRs])
  | m + 1, j, hj, hb => by
    refine Runs.by (rset_p3 · _ _ _ _ _ _ _ _ _ _ _) ?_
    have hsz : (pre ++ r).length = pre.length + r.length := by simp
    obtain ⟨c, hd, hg, hc⟩ := getD_drop (l := r) (i := j) (by omega)
    have h0 := getD_pre pre r j
    rw [hg] at h0
    have e1 : ((pre.length : Int) - 1 + 1) = (pre.length : Int) := by omega
    simp (disch := omega) only [size_mk, hsz, byI_mk, h0, ev_lt_t, ev_le_t, Bool.and_self, cond_true, w64, e1]
    have hne : ((c.toNat : Int) != 93) = !(c == 93) := by
      show (!((c.toNat : Int) == 93)) = _
      rw [show ((c.toNat : Int) == 93) = (c == 93) from u8_eq (n := 93) (by decide)]
    rw [hne]
    by_cases h93 : c = 93
    · subst h93
      have e93 : ((93 : UInt8) == 93) = true := rfl
      simp (disch := omega) only [e93, Bool.not_true, cond_false, ev_le_f]
      have hx : ixI r 93 = (j : Int) := by
        rcases ixI_cases r 93 with ⟨h1, h2⟩ | ⟨m', h0', h1, h2, h3⟩
        · exact absurd rfl (h2 93 (List.mem_of_getElem? hc))
        · have h1 : ixI r 93 = (m' : Int) := h1
          rw [h1]
          rcases Nat.lt_trichotomy m' j with h | h | h
          · exact absurd rfl (hb 93 (List.mem_of_getElem? (i := m') (by rw [List.getElem?_take, if_pos h]; exact h3)))
          · rw [h]
          · exact absurd rfl (h2 93 (List.mem_of_getElem? (i := j) (by rw [List.getElem?_take, if_pos h]; exact hc)))
      have hxn : ¬ ixI r 93 < 0 := by omega
      have hxt : (ixI r 93).toNat = j := by omega
      -- what the whole is
      have hall : rsetAll r ((pre.length : Int) - 1) = rsetRes (negB (r.take j)) [] (bodyB (r.take j)) ((pre.length + j : Nat) : Int) := by
        simp only [rsetAll, rsetE, rsetN, if_neg hxn, hxt, hx, setE, elNeg, elRs, rsetRes, setOk, List.nil_append]
        rw [show (pre.length : Int) - 1 + 1 + (j : Int) + 1 = ((pre.length + j : Nat) : Int) + 1 by omega]
        have hj' : ¬ (j : Int) < 0 := by omega
        simp only [if_neg hj', Int.toNat_natCast]
      rw [hall]
      have hr : r = r.take j ++ 93 :: r.drop (j + 1) := by rw [← hd, List.take_append_drop]
      have htl : (r.take j).length = j := by simp; omega
      generalize hbo : r.take j = bo at *
      generalize r.drop (j + 1) = rest at *
      have hrl : r.length = j + 1 + rest.length := by rw [hr]; simp; omega
      cases bo with
      | nil =>
        obtain rfl : j = 0 := by simpa using htl.symm
        simp (disch := omega) only [ev_lt_f, cond_false]
        have ih := rset_loop 0 pre [] r false [] (by simp) (by simp; omega) (by simp)
        simp only [List.nil_append, List.length_nil, Nat.add_zero] at ih
        simp only [Nat.add_zero, negB, bodyB, List.head?_nil]
        exact .go ih
      | cons x bo =>
        have hj1 : j = bo.length + 1 := by simpa using htl.symm
        have h1 : (pre ++ r).getD pre.length 0 = x := by have := getD_pre pre r 0; rw [Nat.add_zero] at this; rw [this, hr]; rfl
        have h33 : ((x.toNat : Int) == 33) = (x == 33) := u8_eq (n := 33) (by decide)
        simp (disch := omega) only [ev_lt_t, cond_true, h1, h33]
        by_cases hx33 : x = 33
        · subst hx33
          have e33 : ((33 : UInt8) == 33) = true := rfl
          simp only [e33, cond_true]
          have ih := rset_loop bo.length (pre ++ [33]) bo (93 :: rest) true [] (Nat.le_refl _) (by simp; omega) (by simp; omega)
          have e5 : pre ++ [33] ++ (bo ++ 93 :: rest) = pre ++ r := by rw [hr]; simp
          have e6 : (((pre ++ [33]).length + bo.length : Nat) : Int) = ((pre.length + j : Nat) : Int) := by simp; omega
          have e7 : ((pre ++ [33]).length : Int) = (pre.length : Int) + 1 := by simp
          rw [e5, e6, e7] at ih
          exact .go ih
        · have e33 : (x == 33) = false := by simpa using hx33
          have hn : negB (x :: bo) = false := by simp [negB, hx33]
          have hbb : bodyB (x :: bo) = x :: bo := by simp [bodyB, hn]
          simp only [e33, cond_false]
          have ih := rset_loop (bo.length + 1) pre (x :: bo) (93 :: rest) false [] (Nat.le_refl _) (by simp; omega) (by simp; omega)
          have e5 : pre ++ (x :: bo ++ 93 :: rest) = pre ++ r := by rw [hr]
          have e6 : ((pre.length + (x :: bo).length : Nat) : Int) = ((pre.length + j : Nat) : Int) := by simp; omega
          rw [e5, e6] at ih
          rw [hn, hbb]
          exact .go ih
    · have e93 : (c == 93) = false := by simpa using h93
      simp only [e93, Bool.not_false, cond_true]
      have ih := rset_find pre r hl hp m (j + 1) (by omega) (by
        intro b hb'
        rw [List.take_add_one, List.mem_append] at hb'
        rcases hb' with h | h
        · exact hb b h
        · rw [hc] at h; simp at h; rw [h]; exact h93)
      have e6 : ((pre.length + (j + 1) : Nat) : Int) = ((pre.length + j : Nat) : Int) + 1 := by omega
      rw [e6] at ih
      exact .go ih
theorem rset_holds : Holds k_rset := con_run (xs := []) hold0 fun aa hp r h => by
  split at h
  case h_2 => cases h
  rename_i s i
  obtain ⟨g, rfl⟩ := xo h
  simp only [Bool.and_eq_true, Nat.ble_eq, leI_eq, ltI_eq, decide_eq_true_eq] at g
  obtain ⟨g1, g2, g3⟩ := g
  obtain ⟨l, rfl⟩ := str_cases s
  rw [size_mk] at g1 g3
  obtain ⟨n, rfl⟩ : ∃ n : Nat, i = (n : Int) := ⟨i.toNat, by omega⟩
  refine Runs.by (rset_e · _ _) ?_
  have hn : n + 1 ≤ l.length := by omega
  have ih := rset_find (l.take (n + 1)) (l.drop (n + 1)) (by simp; omega) (by simp; omega) (l.drop (n + 1)).length 0 (by omega) (by simp)
  have e1 : ((l.take (n + 1)).length : Int) = (n : Int) + 1 := by simp; omega
  have e3 : (((l.take (n + 1)).length + 0 : Nat) : Int) = (n : Int) + 1 := by simp; omega
  have e2 : (n : Int) + 1 - 1 = n := by omega
  rw [List.take_append_drop, e3, e1, e2] at ih
  simp (disch := omega) only [w64, Int.toNat_natCast, bl_mk]
  exact .go ih
end Go.Ab
namespace Go.Ab
open Go.Proofs

def relRes (acc : List El) (l : List UInt8) : List L := [.lst 45 ((((parseE false l).map (acc ++ ·)).getD []).map encR), .bool (parseE false l).isSome]
theorem relRes_none {acc : List El} {l : List UInt8} (h : parseE false l = none) : relRes acc l = [.lst 45 [], .bool false] := by simp [relRes, h]
theorem relRes_some {acc : List El} {b : UInt8} {l : List UInt8} {e : El} {w : Nat} (h : elem1 false (b :: l) = some (e, w)) : relRes acc (b :: l) = relRes (acc ++ [e]) ((b :: l).drop w) := by
  simp only [relRes, parseE_cons, h]
  cases parseE false ((b :: l).drop w) <;> simp
theorem encR_app (l : List El) (e : El) : l.map encR ++ [encR e] = (l ++ [e]).map encR := by simp
/-- The run of asterisks. -/
theorem rel_stars (pre T : List UInt8) (acc : List El) (hacc : acc.length ≤ 1000000)
    (go : ∀ n, (n = 1 ∨ n = 2) → ∀ rest, List.replicate n 42 ++ rest = T → pre.length + n + rest.length ≤ 1000000 → Runs (cfg [k_rset]) (relems_q3 (mk (pre ++ (List.replicate n 42 ++ rest))) ((pre.length + n : Nat) : Int) (acc.map encR ++ [encR (if n = 1 then .any1 else .any2)])) (relRes (acc ++ [if n = 1 then .any1 else .any2]) rest)) :
    ∀ (rest : List UInt8) (n : Nat), 1 ≤ n → List.replicate n 42 ++ rest = T → pre.length + n + rest.length ≤ 1000000 →
    Runs (cfg [k_rset]) (relems_q14 (mk (pre ++ (List.replicate n 42 ++ rest))) (pre.length : Int) (n : Int) (acc.map encR)) (relRes acc (List.replicate n 42 ++ rest)) := by
  -- the end of the run
  have fin : ∀ (rest : List UInt8) (n : Nat), 1 ≤ n → List.replicate n 42 ++ rest = T → pre.length + n + rest.length ≤ 1000000 → rest.head? ≠ some 42 →
      RunsF (cfg [k_rset]) (fun G => cond (ltI 2 (n : Int)) (some [(.lst 45 []), (.bool (false))])
        (cond (roomN (List.length (acc.map encR) + 1) 40)
         (G (relems_q3 (mk (pre ++ (List.replicate n 42 ++ rest))) (wrapI IntKind.i64 ((pre.length : Int) + (n : Int))) (acc.map encR ++ [[L.int IntKind.i64 (wrapI IntKind.i64 (2 + (n : Int))), L.int IntKind.u8 0, L.bool false, L.lst 63 []]])))
         none)) (relRes acc (List.replicate n 42 ++ rest)) := by
    intro rest n hn hT hl hh
    by_cases h2 : 2 < n
    · simp (disch := omega) only [ev_lt_t, cond_true]
      obtain ⟨k, rfl⟩ : ∃ k, n = k + 3 := ⟨n - 3, by omega⟩
      refine .ret' (relRes_none ?_).symm
      have : List.replicate (k + 3) (42 : UInt8) ++ rest = 42 :: 42 :: 42 :: (List.replicate k 42 ++ rest) := by simp [List.replicate_succ]
      rw [this, parseE_cons]
      have : elem1 false (42 :: 42 :: 42 :: (List.replicate k 42 ++ rest)) = none := by simp [elem1]
      rw [this]
    · have hn2 : n = 1 ∨ n = 2 := by omega
      simp (disch := omega) only [ev_lt_f, cond_false, List.length_map, roomN_t, cond_true, w64]
      have e1 : (pre.length : Int) + (n : Int) = ((pre.length + n : Nat) : Int) := by omega
      rw [e1]
      have hg := go n hn2 rest hT hl
      rcases hn2 with rfl | rfl
      · have he : elem1 false (42 :: rest) = some (.any1, 1) := by simp only [elem1]; simp [hh]
        have : relRes acc (List.replicate 1 42 ++ rest) = relRes (acc ++ [.any1]) rest := by
          have := relRes_some (acc := acc) he
          simpa using this
        rw [this]
        exact .go hg
      · have he : elem1 false (42 :: 42 :: rest) = some (.any2, 2) := by simp only [elem1]; simp [hh]
        have : relRes acc (List.replicate 2 42 ++ rest) = relRes (acc ++ [.any2]) rest := by
          have := relRes_some (acc := acc) he
          simpa [List.replicate_succ] using this
        rw [this]
        exact .go hg
  intro rest
  induction rest with
  | nil =>
    intro n hn hT hl
    refine Runs.by (relems_p14 · _ _ _ _) ?_
    have hsz : (pre ++ (List.replicate n (42 : UInt8) ++ [])).length = pre.length + n := by simp
    have := fin [] n hn hT hl (by simp)
    have hw : wrapI .i64 ((pre.length : Int) + (n : Int)) = (pre.length : Int) + (n : Int) := w64 (by omega) (by omega)
    rw [size_mk, hsz, hw, ev_lt_f (by omega)]
    simp only [cond_false]
    rw [hw] at this
    exact this
  | cons c rest ih =>
    intro n hn hT hl
    refine Runs.by (relems_p14 · _ _ _ _) ?_
    rw [List.length_cons] at hl
    have hsz : (pre ++ (List.replicate n (42 : UInt8) ++ c :: rest)).length = pre.length + n + rest.length + 1 := by simp; omega
    have hw : wrapI .i64 ((pre.length : Int) + (n : Int)) = ((pre.length + n : Nat) : Int) := by rw [w64 (by omega) (by omega)]; omega
    have hgd : (pre ++ (List.replicate n (42 : UInt8) ++ c :: rest)).getD (pre.length + n) 0 = c := by
      rw [← List.append_assoc]
      have := getD_pre (pre ++ List.replicate n 42) (c :: rest) 0
      rw [List.length_append, List.length_replicate] at this
      simp
    have h42 : ((c.toNat : Int) == 42) = (c == 42) := u8_eq (n := 42) (by decide)
    by_cases hc : c = 42
    · subst hc
      have e42 : ((42 : UInt8) == 42) = true := rfl
      have e5 : List.replicate (n + 1) (42 : UInt8) ++ rest = List.replicate n 42 ++ 42 :: rest := by rw [List.replicate_succ']; simp
      have := ih (n + 1) (by omega) (e5.trans hT) (by omega)
      rw [hw]
      simp (disch := omega) only [size_mk, hsz, byI_mk, hgd, h42, e42, ev_lt_t, ev_le_t, Bool.and_self, cond_true, w64]
      have e6 : ((n + 1 : Nat) : Int) = (n : Int) + 1 := by omega
      rw [e5, e6] at this
      exact .go this
    · have e42 : (c == 42) = false := by simpa using hc
      have := fin (c :: rest) n hn hT (by rw [List.length_cons]; omega) (by simpa using hc)
      rw [hw] at this ⊢
      simp (disch := omega) only [size_mk, hsz, byI_mk, hgd, h42, e42, ev_lt_t, ev_le_t, Bool.and_self, cond_true, cond_false]
      exact this
theorem rel_loop : ∀ (k : Nat) (pre l : List UInt8) (acc : List El), l.length ≤ k → pre.length + l.length ≤ 1000000 → acc.length + l.length ≤ 1000000 →
    Runs (cfg [k_rset]) (relems_q3 (mk (pre ++ l)) (pre.length : Int) (acc.map encR)) (relRes acc l)
  | k, pre, [], acc, hk, hl, ha => by
    refine Runs.by (relems_p3 · _ _ _) ?_
    simp (disch := omega) only [size_mk, List.append_nil, ev_lt_f, cond_false]
    exact .ret' (by simp [relRes, parseE_nil])
  | k, pre, b :: r, acc, hk, hl, ha => by
    refine Runs.by (relems_p3 · _ _ _) ?_
    rw [List.length_cons] at hk hl ha
    have hsz : (pre ++ b :: r).length = pre.length + r.length + 1 := by simp; omega
    have h0 : (pre ++ b :: r).getD pre.length 0 = b := by simp
    have h93 : ((b.toNat : Int) == 93) = (b == 93) := u8_eq (n := 93) (by decide)
    have h42 : ((b.toNat : Int) == 42) = (b == 42) := u8_eq (n := 42) (by decide)
    have h63 : ((b.toNat : Int) == 63) = (b == 63) := u8_eq (n := 63) (by decide)
    have h91 : ((b.toNat : Int) == 91) = (b == 91) := u8_eq (n := 91) (by decide)
    have hdr : (pre ++ b :: r).drop (pre.length + 1) = r := by rw [List.drop_append]; simp
    simp (disch := omega) only [size_mk, hsz, byI_mk, h0, h93, h42, h63, h91, ev_lt_t, ev_le_t, ev_blt, Bool.and_self, cond_true, Int.toNat_natCast, bl_mk, hdr, List.length_map, roomN_t, w64]
    have step : ∀ {e : El} {w : Nat} {n : Int}, elem1 false (b :: r) = some (e, w) → n = (pre.length : Int) + (w : Int) → Runs (cfg [k_rset]) (relems_q3 (mk (pre ++ b :: r)) n ((acc.map encR) ++ [encR e])) (relRes acc (b :: r)) := fun {e w n} he hn => by
      obtain ⟨h1, h2⟩ := elem1_width he
      rw [List.length_cons] at h2
      rw [relRes_some he, encR_app]
      have ih := rel_loop (k - 1) (pre ++ (b :: r).take w) ((b :: r).drop w) (acc ++ [e]) (by simp only [List.length_drop, List.length_cons]; omega) (by simp only [List.length_drop, List.length_append, List.length_take, List.length_cons]; omega) (by simp only [List.length_drop, List.length_append, List.length_singleton, List.length_cons, List.length_nil]; omega)
      have e1 : ((pre ++ (b :: r).take w).length : Int) = n := by simp only [List.length_append, List.length_take, List.length_cons]; omega
      rw [List.append_assoc, List.take_append_drop, e1] at ih
      exact ih
    have fail : elem1 false (b :: r) = none → relRes acc (b :: r) = [.lst 45 [], .bool false] := fun he => relRes_none (by rw [parseE_cons, he])
    by_cases c91 : b = 91
    · subst c91
      have e91 : ((91 : UInt8) == 91) = true := rfl
      have hx := ixI_bound r
      simp only [e91, cond_true]
      by_cases hi : ixI r 93 < 0
      · have : rsetN r (pre.length : Int) = -1 := by simp [rsetN, hi]
        simp (disch := omega) only [this, ev_lt_t, cond_true]
        exact .ret' (fail (by simp only [elem1]; simp [hi])).symm
      · obtain ⟨m, hm⟩ : ∃ m : Nat, ixI r 93 = (m : Int) := ⟨(ixI r 93).toNat, by omega⟩
        have hi' : ¬ (m : Int) < 0 := by omega
        have hel : elem1 false (91 :: r) = if setOk (r.take m) = true then some (setE (r.take m), m + 2) else none := by
          simp only [elem1, hm, if_neg hi', Int.toNat_natCast]; simp
        simp only [rsetN, rsetE, hm, if_neg hi', Int.toNat_natCast]
        cases hs : setOk (r.take m) with
        | false =>
          simp (disch := omega) only [Bool.false_eq_true, if_false, ev_lt_t, cond_true]
          exact .ret' (fail (by rw [hel, hs]; simp)).symm
        | true =>
          simp (disch := omega) only [if_true, ev_lt_f, cond_false]
          refine .go (step (e := setE (r.take m)) (w := m + 2) (by rw [hel, hs]; simp) (by omega))
    have e91 : (b == 91) = false := by simpa using c91
    simp only [e91, cond_false]
    by_cases c93 : b = 93
    · subst c93
      exact .ret' (fail (by simp [elem1])).symm
    have e93 : (b == 93) = false := by simpa using c93
    simp only [e93, cond_false]
    by_cases c42 : b = 42
    · subst c42
      have e42 : ((42 : UInt8) == 42) = true := rfl
      simp only [e42, cond_true]
      have := rel_stars pre (42 :: r) acc (by omega) (fun n hn rest hT h2 => by
        have hlr : n + rest.length = r.length + 1 := by have := congrArg List.length hT; simpa using this
        have ih := rel_loop (k - 1) (pre ++ List.replicate n 42) rest (acc ++ [if n = 1 then .any1 else .any2]) (by omega) (by simp; omega) (by simp; omega)
        have e1 : ((pre ++ List.replicate n (42 : UInt8)).length : Int) = ((pre.length + n : Nat) : Int) := by simp
        rw [List.append_assoc, e1] at ih
        rw [encR_app]
        exact ih) r 1 (Nat.le_refl _) (by simp) (by omega)
      exact .go this
    have e42 : (b == 42) = false := by simpa using c42
    simp only [e42, cond_false]
    by_cases c63 : b = 63
    · subst c63
      have e63 : ((63 : UInt8) == 63) = true := rfl
      simp only [e63, cond_true]
      exact .go (step (e := .one) (w := 1) (by simp only [elem1]; simp) (by omega))
    have e63 : (b == 63) = false := by simpa using c63
    simp only [e63, cond_false]
    exact .go (step (e := .byte b) (w := 1) (by simp only [elem1]; simp [c93, c42, c63, c91]) (by omega))
  termination_by k pre l => l.length
  decreasing_by all_goals (simp only [List.length_drop, List.length_cons] at *; omega)
end Go.Ab
namespace Go.Ab
open Go.Proofs

theorem relems_holds : Holds k_relems := con_run (xs := [k_rset]) (hold1 rset_holds hold0) fun aa hp r h => by
  split at h
  case h_2 => cases h
  rename_i s
  obtain ⟨g, rfl⟩ := xo h
  rw [Nat.ble_eq] at g
  obtain ⟨l, rfl⟩ := str_cases s
  rw [size_mk] at g
  refine Runs.by (relems_e · _) ?_
  have := rel_loop l.length [] l [] (Nat.le_refl _) (by simpa using g) (by simpa using g)
  have e : relRes [] l = [.lst 45 (((parseE false l).getD []).map encR), .bool (parseE false l).isSome] := by
    unfold relRes
    cases parseE false l <;> simp
  rw [e] at this
  exact .go this

theorem elem1_vis (b : UInt8) (r : List UInt8) : elem1 true (b :: r) = match elem1 false (b :: r) with
    | none => none
    | some (e, w) => if ((b :: r).take w).all visB = true then some (e, w) else none := by
  have v42 : visB 42 = true := by decide
  have v63 : visB 63 = true := by decide
  have v91 : visB 91 = true := by decide
  have v93 : visB 93 = true := by decide
  cases hv : visB b with
  | false =>
    have h1 : elem1 true (b :: r) = none := by simp [elem1, hv]
    rw [h1]
    cases he : elem1 false (b :: r) with
    | none => rfl
    | some p =>
      obtain ⟨e, w⟩ := p
      obtain ⟨hw, _⟩ := elem1_width he
      obtain ⟨w, rfl⟩ : ∃ k, w = k + 1 := ⟨w - 1, by omega⟩
      simp [hv]
  | true =>
    by_cases c93 : b = 93
    · subst c93; simp [elem1, hv]
    by_cases c42 : b = 42
    · subst c42
      cases r with
      | nil => simp [elem1, hv]
      | cons x r =>
        by_cases d1 : x = 42
        · subst d1
          by_cases d2 : r.head? = some 42
          · simp [elem1, hv, d2]
          · simp [elem1, hv, d2]
        · simp [elem1, hv, d1]
    by_cases c63 : b = 63
    · subst c63; simp [elem1, hv]
    by_cases c91 : b = 91
    · subst c91
      simp only [elem1, hv]
      have hx := ixI_bound r
      by_cases hi : ixI r 93 < 0
      · simp [hi]
      · obtain ⟨m, hm⟩ : ∃ m : Nat, ixI r 93 = (m : Int) := ⟨(ixI r 93).toNat, by omega⟩
        have hi' : ¬ (m : Int) < 0 := by omega
        have hml : m < r.length := by omega
        have h93 : r[m]? = some 93 := by
          rcases ixI_cases r 93 with ⟨h1, h2⟩ | ⟨m', h0', h1, h2, h3⟩
          · have h1 : ixI r 93 = -1 := h1; omega
          · have h1 : ixI r 93 = (m' : Int) := h1
            obtain rfl : m = m' := by omega
            exact h3
        have ht : (91 :: r).take (m + 2) = 91 :: (r.take m ++ [93]) := by
          rw [List.take_succ_cons, List.take_add_one, h93]; rfl
        simp only [hm, if_neg hi', Int.toNat_natCast]
        cases hs : setOk (r.take m) with
        | false => simp
        | true => simp [ht, hv, v93]
    · simp [elem1, hv, c93, c42, c63, c91]
theorem parse_vis : ∀ (k : Nat) (g : List UInt8), g.length ≤ k → parseE true g = if g.all visB = true then parseE false g else none
  | _, [], _ => by simp [parseE_nil]
  | 0, _ :: _, h => by simp at h
  | k + 1, b :: r, h => by
    rw [parseE_cons, parseE_cons, elem1_vis]
    cases he : elem1 false (b :: r) with
    | none => simp
    | some p =>
      obtain ⟨e, w⟩ := p
      obtain ⟨h1, h2⟩ := elem1_width he
      have ih := parse_vis k ((b :: r).drop w) (by simp only [List.length_drop, List.length_cons] at *; omega)
      have ha : (b :: r).all visB = (((b :: r).take w).all visB && ((b :: r).drop w).all visB) := by rw [← List.all_append, List.take_append_drop]
      rw [ha]
      cases hA : ((b :: r).take w).all visB with
      | false => simp only [hA, Bool.false_and, Bool.false_eq_true, if_false]
      | true =>
        simp only [hA, if_true, ih, Bool.true_and]
        cases hB : ((b :: r).drop w).all visB with
        | false => simp only [Bool.false_eq_true, if_false, Option.map_none]
        | true => simp only [if_true]
theorem rRight_loop (l : List UInt8) (hl : l.length ≤ 60) : ∀ m i, i + m = l.length → Runs (cfg [k_relems]) (rRight_q4 (mk l) (i : Int)) [.int .i64 (if (l.drop i).all visB = true then (if (parseE false l).isSome then 0 else 3) else 3)]
  | 0, i, h => by
    refine Runs.by (rRight_p4 · _ _) ?_
    rw [List.drop_eq_nil_of_le (by omega)]
    simp (disch := omega) only [size_mk, ev_lt_f, cond_false, ev_blt, cond_true, bl_mk, List.all_nil, if_true]
    cases (parseE false l).isSome <;> exact .ret
  | m + 1, i, h => by
    refine Runs.by (rRight_p4 · _ _) ?_
    obtain ⟨b, hd, hg, _⟩ := getD_drop (l := l) (i := i) (by omega)
    simp (disch := omega) only [size_mk, byI_mk, ev_le_t, ev_lt_t, Bool.and_self, cond_true, w64, hg]
    rw [hd, List.all_cons]
    have ih := rRight_loop l hl m (i + 1) (by omega)
    by_cases h1 : b.toNat < 33
    · have : visB b = false := decide_eq_false (by omega)
      simp (disch := omega) only [ev_lt_t, cond_true, this, Bool.false_and, Bool.false_eq_true, if_false]
      exact .ret
    · by_cases h2 : 126 < b.toNat
      · have : visB b = false := decide_eq_false (by omega)
        simp (disch := omega) only [ev_lt_f, ev_lt_t, cond_true, cond_false, this, Bool.false_and, Bool.false_eq_true, if_false]
        exact .ret
      · have : visB b = true := decide_eq_true (by omega)
        simp (disch := omega) only [ev_lt_f, cond_false, this, Bool.true_and]
        exact .go ih
theorem rRight_holds : Holds k_rRight := cS_of (xs := [k_relems]) (hold1 relems_holds hold0) fun l hl => by
  refine Runs.by (rRight_e · _) ?_
  rw [size_mk]
  unfold rightE
  by_cases h : 60 < l.length
  · simp (disch := omega) only [ev_lt_t, cond_true, if_pos h]
    exact .ret
  · simp (disch := omega) only [ev_lt_f, cond_false, if_neg h]
    rw [parse_vis _ l (Nat.le_refl _)]
    have ih := rRight_loop l (by omega) l.length 0 (by omega)
    rw [List.drop_zero] at ih
    cases ha : l.all visB with
    | true => rw [ha] at ih; exact .go ih
    | false => rw [ha] at ih; exact .go ih
end Go.Ab
