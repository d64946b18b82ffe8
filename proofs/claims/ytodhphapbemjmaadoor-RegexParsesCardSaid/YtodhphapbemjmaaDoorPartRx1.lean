/- The numbers of the functions, the named points, the contracts' frame. -/
import Derived.Test.YtodhphapbemjmaaDoorPartAb2
import Derived.Test.YtodhphapbemjmaaDoorProg
import Derived.KernelRfl
import Derived.Lib.Bytealg
namespace Go.Ab
open Go.Proofs
abbrev n_main_main : Nat := 0
abbrev n_gosem_cut : Nat := 1
abbrev n_gosem_cut_init : Nat := 2
abbrev n_codesearchlaw08_RegexChecks : Nat := 3
abbrev n_codesearchlaw08_RegexParses : Nat := 4
abbrev n_codesearchlaw08_RegexPrints : Nat := 5
abbrev n_codesearchlaw08_RegexFolds : Nat := 6
abbrev n_codesearchlaw08_RegexBack : Nat := 7
abbrev n_codesearchlaw08_RegexAgain : Nat := 8
abbrev n_codesearchlaw08_RegexFolding : Nat := 9
abbrev n_codesearchlaw08_alive : Nat := 10
abbrev n_codesearchlaw08_small : Nat := 11
abbrev n_regex_Right : Nat := 12
abbrev n_codesearchref08_Right : Nat := 13
abbrev n_regex_Same : Nat := 14
abbrev n_codesearchref08_Same : Nat := 15
abbrev n_regex_Parse : Nat := 16
abbrev n_codesearchref08_Parse : Nat := 17
abbrev n_regex_Print : Nat := 18
abbrev n_codesearchref08_Print : Nat := 19
abbrev n_regex_Has : Nat := 20
abbrev n_codesearchref08_Has : Nat := 21
abbrev n_regex_Lengths : Nat := 22
abbrev n_codesearchref08_Lengths : Nat := 23
abbrev n_regex_Fold : Nat := 24
abbrev n_codesearchref08_Fold : Nat := 25
abbrev n_codesearchlaw08_covers : Nat := 26
abbrev n_codesearchlaw08_one : Nat := 27
abbrev n_codesearchlaw08_prints : Nat := 28
abbrev n_codesearchlaw08_refused : Nat := 29
abbrev n_codesearchlaw08_size : Nat := 30
abbrev n_regex_node : Nat := 31
abbrev n_regex_size : Nat := 32
abbrev n_codesearchref08_node : Nat := 33
abbrev n_codesearchref08_Size : Nat := 34
abbrev n_codesearchref08_Depth : Nat := 35
abbrev n_slices_Equal : Nat := 36
abbrev n_slices_EqualFunc : Nat := 37
abbrev n_codesearchref08_sameSet : Nat := 38
abbrev n_regex_reader_alt : Nat := 39
abbrev n_codesearchref08_alt : Nat := 40
abbrev n_regex_text : Nat := 41
abbrev n_codesearchref08_canonical : Nat := 42
abbrev n_slices_ContainsFunc : Nat := 43
abbrev n_regex_Has_1 : Nat := 44
abbrev n_regex_total : Nat := 45
abbrev n_regex_of : Nat := 46
abbrev n_regex_bytes_ranges : Nat := 47
abbrev n_codesearchref08_Ranges : Nat := 48
abbrev n_codesearchref08_fields : Nat := 49
abbrev n_regex_reader_seq : Nat := 50
abbrev n_regex_reader_take : Nat := 51
abbrev n_codesearchref08_seq : Nat := 52
abbrev n_regex_printSet : Nat := 53
abbrev n_regex_parts : Nat := 54
abbrev n_strings_Join : Nat := 55
abbrev n_regex_bounds : Nat := 56
abbrev n_codesearchref08_ofSet : Nat := 57
abbrev n_codesearchref08_inner : Nat := 58
abbrev n_codesearchref08_suffix : Nat := 59
abbrev n_slices_IndexFunc : Nat := 60
abbrev n_regex_bytes_add : Nat := 61
abbrev n_regex_reader_next : Nat := 62
abbrev n_regex_reader_item : Nat := 63
abbrev n_codesearchref08_item : Nat := 64
abbrev n_regex_visible : Nat := 65
abbrev n_regex_written : Nat := 66
abbrev n_regex_bytes_invert : Nat := 67
abbrev n_regex_inside : Nat := 68
abbrev n_slices_Contains : Nat := 69
abbrev n_strings_Builder_Grow : Nat := 70
abbrev n_strings_Builder_WriteString : Nat := 71
abbrev n_strings_Builder_String : Nat := 72
abbrev n_strconv_Itoa : Nat := 73
abbrev n_codesearchref08_writable : Nat := 74
abbrev n_codesearchref08_quoted : Nat := 75
abbrev n_codesearchref08_ranges : Nat := 76
abbrev n_codesearchref08_digits : Nat := 77
abbrev n_regex_reader_atom : Nat := 78
abbrev n_regex_reader_number : Nat := 79
abbrev n_regex_reader_want : Nat := 80
abbrev n_codesearchref08_atom : Nat := 81
abbrev n_codesearchref08_bounds : Nat := 82
abbrev n_regex_class : Nat := 83
abbrev n_strings_IndexByte : Nat := 84
abbrev n_slices_Index : Nat := 85
abbrev n_strings_Builder_copyCheck : Nat := 86
abbrev n_strings_Builder_grow : Nat := 87
abbrev n_internal_strconv_Itoa : Nat := 88
abbrev n_codesearchref08_inText : Nat := 89
abbrev n_regex_reader_set : Nat := 90
abbrev n_regex_escape : Nat := 91
abbrev n_codesearchref08_set : Nat := 92
abbrev n_codesearchref08_escape : Nat := 93
abbrev n_codesearchref08_byteOf : Nat := 94
abbrev n_codesearchref08_number : Nat := 95
abbrev n_internal_stringslite_IndexByte : Nat := 96
abbrev n_internal_abi_NoEscape : Nat := 97
abbrev n_internal_bytealg_MakeNoZero : Nat := 98
abbrev n_internal_strconv_FormatInt : Nat := 99
abbrev n_regex_reader_elem : Nat := 100
abbrev n_codesearchref08_one : Nat := 101
abbrev n_codesearchref08_class : Nat := 102
abbrev n_internal_bytealg_IndexByteString : Nat := 103
abbrev n_internal_strconv_small : Nat := 104
abbrev n_internal_strconv_numDigits : Nat := 105
abbrev n_internal_strconv_formatBase10 : Nat := 106
abbrev n_internal_strconv_formatBits : Nat := 107
abbrev n_internal_strconv_log10Pow2 : Nat := 108
abbrev n_math_bits_Len64 : Nat := 109
abbrev n_internal_strconv_bool2 : Nat := 110
abbrev n_internal_strconv_isPowerOfTwo : Nat := 111
abbrev n_math_bits_TrailingZeros : Nat := 112
abbrev n_math_bits_TrailingZeros32 : Nat := 113
abbrev n_math_bits_TrailingZeros64 : Nat := 114
abbrev n_runtime_boundsError_Error : Nat := 115
abbrev n_runtime_boundsError_RuntimeError : Nat := 116
abbrev n_runtime_errorString_Error : Nat := 117
abbrev n_runtime_errorString_RuntimeError : Nat := 118
abbrev n_runtime_plainError_Error : Nat := 119
abbrev n_runtime_plainError_RuntimeError : Nat := 120
abbrev n_runtime_errorAddressString_Error : Nat := 121
abbrev n_runtime_errorAddressString_RuntimeError : Nat := 122
abbrev n_runtime_TypeAssertionError_Error : Nat := 123
abbrev n_runtime_TypeAssertionError_RuntimeError : Nat := 124
abbrev n_runtime_PanicNilError_Error : Nat := 125
abbrev n_runtime_PanicNilError_RuntimeError : Nat := 126
abbrev n_internal_abi_Type_Align : Nat := 127
abbrev n_internal_runtime_maps_unhashableTypeError_Error : Nat := 128
abbrev n_internal_runtime_maps_unhashableTypeError_RuntimeError : Nat := 129
abbrev n_api_Errno_Error : Nat := 130
abbrev n_strings_Builder_Reset : Nat := 131
abbrev n_internal_abi_Kind_String : Nat := 132
abbrev n_var_s_door_gosem_cut_vars_holds_initialisers_alone_see_the_manifest_s_row_cutvarsword_look_11_test_files_too : Nat := 133
abbrev n_var_s_door_internal_strconv_uint64pow10_is_laid_by_its_own_initialiser_plain_data_look_11 : Nat := 134
abbrev n_var_s_door_math_bits_deBruijn32tab_is_laid_by_its_own_initialiser_plain_data_look_11 : Nat := 135
abbrev n_var_s_door_math_bits_deBruijn64tab_is_laid_by_its_own_initialiser_plain_data_look_11 : Nat := 136
abbrev n_var_s_door_the_look_of_gosem_cut_vars_went_over_the_folder_that_the_caller_named_as_the_repository_s_root_look_11 : Nat := 137
abbrev n_gosem_cut_vars : Nat := 138
def ptsL : List (Nat × List (Nat × List Nat)) := [
  (6, [(7, [2]), (11, [2, 5, 6, 7, 8])]),
  (8, [(8, [3]), (10, [3]), (13, [3, 5]), (14, [3, 5, 7, 8])]),
  (9, [(7, [1, 3, 4, 5]), (8, [1, 3, 4, 5, 6, 7])]),
  (10, [(3, [1, 2, 3]), (5, [1]), (6, [1, 4, 5]), (8, [1]), (10, [1]), (11, [1, 6, 7]), (12, [1, 6, 7, 8, 9])]),
  (15, [(4, [2, 3, 5])]),
  (21, [(2, [0, 1, 5])]),
  (23, [(5, [1, 4, 5, 6])]),
  (24, [(4, [1, 2, 3, 12, 13, 14]), (11, [2, 3, 6, 7])]),
  (25, [(5, [1, 2, 3, 4, 5]), (14, [1, 2, 3, 7])]),
  (26, [(4, [2, 3, 5]), (15, [2, 3, 8]), (12, [2, 3, 5, 6, 7]), (14, [2, 3]), (17, [2, 3, 8])]),
  (30, [(5, [1, 2, 5, 6])]),
  (31, [(11, [1, 4, 80, 81, 82]), (19, [126, 127, 128]), (3, [1, 3, 4, 5]), (10, [1, 4]), (16, [1, 4])]),
  (32, [(3, [4, 5, 11, 12, 13])]),
  (33, [(6, [1, 3])]),
  (34, [(3, [1, 3, 4])]),
  (35, [(3, [1, 3, 4])]),
  (36, [(4, [0, 1, 12, 13])]),
  (37, [(4, [1, 2, 15, 16, 17])]),
  (38, [(4, [0, 1, 5])]),
  (39, [(2, [0, 2, 3])]),
  (40, [(2, [0, 1, 4, 6])]),
  (42, [(16, [1, 6, 7])]),
  (45, [(3, [1, 4, 5, 11, 12, 13])]),
  (46, [(3, [2, 3, 6, 7, 8])]),
  (47, [(3, [0, 3, 4]), (7, [0, 3, 4, 5])]),
  (48, [(3, [0, 1, 5, 6])]),
  (49, [(6, [1, 3])]),
  (50, [(2, [0, 2, 3])]),
  (52, [(2, [0, 1, 4, 6])]),
  (53, [(2, [0, 4]), (4, [0, 4]), (6, [0, 4]), (7, [0, 5]), (10, [0, 5])]),
  (54, [(3, [1, 6, 11, 12, 13])]),
  (55, [(12, [0, 1, 5, 39, 40, 41]), (22, [1, 8, 63, 64, 65])]),
  (60, [(2, [0, 1, 7, 8])]),
  (61, [(1, [0, 2, 6])]),
  (67, [(2, [1, 2, 4])]),
  (68, [(3, [0, 4, 7, 8, 9])]),
  (76, [(3, [0, 4, 5])]),
  (78, [(12, [2, 5]), (19, [0, 2, 3]), (20, [0, 2, 3, 6, 7]), (22, [2, 6]), (23, [0, 2, 3]), (25, [2, 3])]),
  (79, [(3, [0, 3, 4, 5])]),
  (85, [(2, [0, 1, 7, 8])]),
  (89, [(2, [0, 1, 5])]),
  (90, [(4, [0, 2, 3, 4, 5]), (7, [0, 2, 3, 4, 6, 7]), (11, [0, 2, 3, 4, 6, 8]), (12, [0, 2, 3, 4]), (15, [2, 3])]),
  (91, [(4, [0, 2, 4]), (16, [2, 4])]),
  (92, [(7, [0, 4, 6, 7, 8])]),
  (95, [(3, [0, 1, 6, 7])]),
  (100, [(9, [1, 6, 7, 33, 34]), (4, [0, 1, 6]), (8, [1, 6, 7]), (13, [6, 7]), (16, [0, 1, 6])]),
  (106, [(1, [0, 1, 4])]),
  (107, [(11, [0, 1, 3, 4, 10, 11, 12, 13, 14, 15, 16]), (18, [0, 1, 3, 4, 10, 11, 12, 13, 17])])]
def ownL : List Nat := [25, 47, 48, 54]
noncomputable def cfg (xs : List (Nat × Con)) : Cfg := { P := Tryd.prog, pts := lookP ptsL, own := memN ownL, ext := look xs }
theorem noCount : NoCount Tryd.prog := by
  intro f fn h
  have hall : (Tryd.prog.funcs.toList.all fun fn => !(fn.name == "runtime.NumGoroutine")) = true := by kernel_rfl
  have hm : fn ∈ Tryd.prog.funcs.toList := Array.mem_toList_iff.2 (Array.mem_of_getElem? h)
  have := List.all_eq_true.1 hall fn hm
  simpa using this
theorem mixed : Tryd.prog.follows .mixedOrders = true := by kernel_rfl
theorem cfg_ext {xs : List (Nat × Con)} (h : ∀ p ∈ xs, ExtFor (cfg xs) p.1 p.2) : ExtOk (cfg xs) := extOk_of fun f S hf => h (f, S) (look_mem hf)
/-- A contract holds whatever the other contracts are. -/
theorem con_to {xs ys : List (Nat × Con)} {f : FuncId} {S : Con} (h : ExtFor (cfg xs) f S) : ExtFor (cfg ys) f S := h.to rfl rfl
/-- It holds. -/
def Holds (p : Nat × Con) : Prop := ExtFor (cfg []) p.1 p.2
/-- A contract out of the text. -/
theorem con_run {xs : List (Nat × Con)} (hx : ∀ p ∈ xs, Holds p) {f : FuncId} {S : Con} (h : ∀ aa hp r, S aa hp = some (true, r) → Runs (cfg xs) (.enter f aa hp) r) : Holds (f, S) :=
  con_to (extFor_run (C := cfg xs) (cfg_ext fun p hp => con_to (hx p hp)) noCount mixed h)
theorem hold0 : ∀ p ∈ ([] : List (Nat × Con)), Holds p := fun _ h => by cases h
theorem hold1 {a : Nat × Con} {l : List (Nat × Con)} (h : Holds a) (hl : ∀ p ∈ l, Holds p) : ∀ p ∈ a :: l, Holds p := fun p hp => by
  rcases List.mem_cons.1 hp with rfl | hp
  · exact h
  · exact hl p hp
end Go.Ab
namespace Go.Ab
open Go.Proofs

/-- An expression. -/
inductive Rx where
  | mk (kind : Int) (set : List (UInt8 × UInt8)) (mn mx : Int) (subs : List Rx)
instance : Inhabited Rx := ⟨.mk 0 [] 0 0 []⟩
def Rx.kind : Rx → Int | .mk k _ _ _ _ => k
def Rx.set : Rx → List (UInt8 × UInt8) | .mk _ s _ _ _ => s
def Rx.mn : Rx → Int | .mk _ _ m _ _ => m
def Rx.mx : Rx → Int | .mk _ _ _ m _ => m
def Rx.subs : Rx → List Rx | .mk _ _ _ _ s => s
abbrev tRange : Nat := 48
abbrev tRegex : Nat := 25
def encRs (rs : List (UInt8 × UInt8)) : List (List L) := rs.map fun r => [.int .u8 r.1.toNat, .int .u8 r.2.toNat]
mutual
def encX : Rx → List L
  | .mk k s mn mx ss => [.int .i64 k, .lst 48 (encRs s), .int .i64 mn, .int .i64 mx, .lst 25 (encXs ss)]
def encXs : List Rx → List (List L)
  | [] => []
  | x :: xs => encX x :: encXs xs
end
theorem encXs_map : ∀ xs : List Rx, encXs xs = xs.map encX
  | [] => by simp [encXs]
  | x :: xs => by simp [encXs, encXs_map xs]
theorem encX_eq (x : Rx) : encX x = [.int .i64 x.kind, .lst 48 (encRs x.set), .int .i64 x.mn, .int .i64 x.mx, .lst 25 (x.subs.map encX)] := by
  cases x with
  | mk k s mn mx ss => rw [encX, encXs_map]; rfl
mutual
def Rx.nodes : Rx → Nat
  | .mk _ _ _ _ ss => 1 + nodesL ss
def nodesL : List Rx → Nat
  | [] => 0
  | x :: xs => x.nodes + nodesL xs
end
mutual
def Rx.lev : Rx → Nat
  | .mk _ _ _ _ ss => levL ss + 1
def levL : List Rx → Nat
  | [] => 0
  | x :: xs => max x.lev (levL xs)
end
theorem nodes_eq (x : Rx) : x.nodes = 1 + nodesL x.subs := by cases x; rw [Rx.nodes]; rfl
theorem lev_eq (x : Rx) : x.lev = levL x.subs + 1 := by cases x; rw [Rx.lev]; rfl
theorem levL_mem : ∀ {xs : List Rx} {x : Rx}, x ∈ xs → x.lev ≤ levL xs
  | y :: ys, x, h => by
    rw [levL]
    rcases List.mem_cons.1 h with rfl | h
    · omega
    · have := levL_mem h; omega
theorem nodesL_mem : ∀ {xs : List Rx} {x : Rx}, x ∈ xs → x.nodes ≤ nodesL xs
  | y :: ys, x, h => by
    rw [nodesL]
    rcases List.mem_cons.1 h with rfl | h
    · omega
    · have := nodesL_mem h; omega
theorem lev_sub {x y : Rx} (h : y ∈ x.subs) : y.lev < x.lev := by rw [lev_eq x]; have := levL_mem h; omega
/-- Not too long. -/
def okRs (xs : List (UInt8 × UInt8)) : Prop := xs.length ≤ 1000000000000
mutual
def Rx.sets : Rx → Prop
  | .mk k s mn mx ss => s.length ≤ 999999999000 ∧ setsL ss
def setsL : List Rx → Prop
  | [] => True
  | x :: xs => x.sets ∧ setsL xs
end
def Rx.ok (x : Rx) : Prop := x.sets ∧ x.nodes ≤ 1000000000000
theorem ok_set' {x : Rx} (h : x.ok) : x.set.length ≤ 999999999000 := by
  obtain ⟨h, _⟩ := h
  cases x; rw [Rx.sets] at h; exact h.1
theorem ok_set {x : Rx} (h : x.ok) : x.set.length ≤ 1000000000000 := Nat.le_trans (ok_set' h) (by decide)
theorem nodesL_len : ∀ xs : List Rx, xs.length ≤ nodesL xs
  | [] => Nat.zero_le _
  | x :: xs => by
    rw [nodesL, nodes_eq, List.length_cons]
    have := nodesL_len xs
    omega
theorem ok_nodes {x : Rx} (h : x.ok) : x.nodes ≤ 1000000000000 := h.2
theorem ok_subs {x : Rx} (h : x.ok) : x.subs.length ≤ 1000000000000 := by
  have h1 := h.2
  rw [nodes_eq] at h1
  have := nodesL_len x.subs
  omega
theorem setsL_mem : ∀ {xs : List Rx} {x : Rx}, setsL xs → x ∈ xs → x.sets
  | y :: ys, x, h, hx => by
    rw [setsL] at h
    rcases List.mem_cons.1 hx with rfl | hx
    · exact h.1
    · exact setsL_mem h.2 hx
theorem ok_sub {x y : Rx} (h : x.ok) (hy : y ∈ x.subs) : y.ok := by
  refine ⟨?_, ?_⟩
  · obtain ⟨h, _⟩ := h
    cases x; rw [Rx.sets] at h; exact setsL_mem h.2 hy
  · have h1 := h.2
    rw [nodes_eq] at h1
    have := nodesL_mem hy
    omega
theorem encRs_inj : ∀ {a b : List (UInt8 × UInt8)}, encRs a = encRs b → a = b
  | [], [], _ => rfl
  | [], _ :: _, h => by simp [encRs] at h
  | _ :: _, [], h => by simp [encRs] at h
  | (x, y) :: a, (z, u) :: b, h => by
    simp only [encRs, List.map_cons, List.cons.injEq, L.int.injEq, true_and, and_true] at h
    obtain ⟨⟨h1, h2⟩, h3⟩ := h
    have e1 : x = z := UInt8.toNat_inj.1 (by omega)
    have e2 : y = u := UInt8.toNat_inj.1 (by omega)
    rw [e1, e2, encRs_inj h3]
mutual
theorem encX_inj : ∀ {a b : Rx}, encX a = encX b → a = b
  | .mk k s mn mx ss, .mk k' s' mn' mx' ss', h => by
    simp only [encX, List.cons.injEq, L.int.injEq, L.lst.injEq, true_and, and_true] at h
    obtain ⟨h1, h2, h3, h4, h5⟩ := h
    rw [h1, encRs_inj h2, h3, h4, encXs_inj h5]
theorem encXs_inj : ∀ {a b : List Rx}, encXs a = encXs b → a = b
  | [], [], _ => rfl
  | [], _ :: _, h => by simp [encXs] at h
  | _ :: _, [], h => by simp [encXs] at h
  | x :: a, y :: b, h => by
    simp only [encXs, List.cons.injEq] at h
    rw [encX_inj h.1, encXs_inj h.2]
end
/-- What cells tell. -/
noncomputable def decX (e : List L) : Rx := open Classical in if h : ∃ x, e = encX x then Classical.choose h else default
theorem decX_enc (x : Rx) : decX (encX x) = x := by
  unfold decX
  have h : ∃ y, encX x = encX y := ⟨x, rfl⟩
  rw [dif_pos h]
  exact (encX_inj (Classical.choose_spec h)).symm
noncomputable def isX (e : List L) (n : Nat) : Bool := open Classical in decide (∃ x : Rx, e = encX x ∧ x.ok ∧ x.lev ≤ n)
theorem isX_enc {x : Rx} {n : Nat} (h : x.ok) (hl : x.lev ≤ n) : isX (encX x) n = true := by
  unfold isX
  classical exact decide_eq_true ⟨x, rfl, h, hl⟩
theorem isX_of {e : List L} {n : Nat} (h : isX e n = true) : ∃ x : Rx, e = encX x ∧ x.ok ∧ x.lev ≤ n := by
  unfold isX at h
  classical exact of_decide_eq_true h
noncomputable def decRs (xs : List (List L)) : List (UInt8 × UInt8) := open Classical in if h : ∃ x, xs = encRs x then Classical.choose h else []
theorem decRs_enc (x : List (UInt8 × UInt8)) : decRs (encRs x) = x := by
  unfold decRs
  have h : ∃ y, encRs x = encRs y := ⟨x, rfl⟩
  rw [dif_pos h]
  exact (encRs_inj (Classical.choose_spec h)).symm
noncomputable def isRs (xs : List (List L)) : Bool := open Classical in decide (∃ x, xs = encRs x ∧ x.length ≤ 1000000000000)
theorem isRs_enc {x : List (UInt8 × UInt8)} (h : x.length ≤ 1000000000000) : isRs (encRs x) = true := by
  unfold isRs
  classical exact decide_eq_true ⟨x, rfl, h⟩
theorem isRs_of {xs : List (List L)} (h : isRs xs = true) : ∃ x, xs = encRs x ∧ x.length ≤ 1000000000000 := by
  unfold isRs at h
  classical exact of_decide_eq_true h
theorem encRs_len (l : List (UInt8 × UInt8)) : (encRs l).length = l.length := by simp [encRs]

/-! ### contracts: membership, equality, size -/
def hasE (rs : List (UInt8 × UInt8)) (c : UInt8) : Bool := rs.any fun r => decide (r.1 ≤ c) && decide (c ≤ r.2)
def hasI (rs : List (UInt8 × UInt8)) (c : Int) : Bool := rs.any fun r => leI (r.1.toNat : Int) c && leI c (r.2.toNat : Int)
noncomputable def k_Has : Nat × Con := (n_regex_Has, fun
  | [.lf (.lst 48 xs), .lf (.int .u8 c)], [] => some (isRs xs, [.bool (hasI (decRs xs) c)])
  | _, _ => none)
noncomputable def k_rHas : Nat × Con := (n_codesearchref08_Has, fun
  | [.lf (.lst 48 xs), .lf (.int .u8 c)], [] => some (isRs xs, [.bool (hasI (decRs xs) c)])
  | _, _ => none)
/-- Where the first range with the byte stands. -/
def ixHas : List (UInt8 × UInt8) → Int → Int
  | [], _ => -1
  | r :: rs, c => cond (leI (r.1.toNat : Int) c && leI c (r.2.toNat : Int)) 0 (cond (ltI (ixHas rs c) 0) (-1) (ixHas rs c + 1))
noncomputable def k_HasFn : Nat × Con := (n_regex_Has_1, fun
  | [.agg [.int .u8 lo, .int .u8 hi], .lf (.ptr 0 0)], [.box [.int .u8] [.int .u8 c]] => some (true, [.bool (leI lo c && leI c hi), .int .u8 c])
  | _, _ => none)
noncomputable def k_IndexFn : Nat × Con := (n_slices_IndexFunc, fun
  | [.lf (.lst 48 xs), .lf (.clo 44 [.ptr 0 0])], [.box [.int .u8] [.int .u8 c]] => some (isRs xs, [.int .i64 (ixHas (decRs xs) c), .int .u8 c])
  | _, _ => none)
noncomputable def k_ContFn : Nat × Con := (n_slices_ContainsFunc, fun
  | [.lf (.lst 48 xs), .lf (.clo 44 [.ptr 0 0])], [.box [.int .u8] [.int .u8 c]] => some (isRs xs, [.bool (leI 0 (ixHas (decRs xs) c)), .int .u8 c])
  | _, _ => none)
noncomputable def k_EqRs : Nat × Con := (n_slices_Equal, fun
  | [.lf (.lst 48 xs), .lf (.lst 48 ys)], [] => some (isRs xs && isRs ys, [.bool (decide (decRs xs = decRs ys))])
  | _, _ => none)
noncomputable def k_sameSet : Nat × Con := (n_codesearchref08_sameSet, fun
  | [.lf (.lst 48 xs), .lf (.lst 48 ys)], [] => some (isRs xs && isRs ys, [.bool (decide (decRs xs = decRs ys))])
  | _, _ => none)
open Classical in
noncomputable def sameX (x y : Rx) : Bool := decide (x = y)
open Classical in
noncomputable def sameXs (x y : List Rx) : Bool := decide (x = y)
noncomputable def decXs (xs : List (List L)) : List Rx := xs.map decX
noncomputable def isXs (xs : List (List L)) (n : Nat) : Bool := Nat.ble xs.length 1000000000000 && xs.all fun e => isX e n
noncomputable def k_Same (n : Nat) : Nat × Con := (n_regex_Same, fun
  | [.agg [.int .i64 a0, .lst 48 a1, .int .i64 a2, .int .i64 a3, .lst 25 a4], .agg [.int .i64 b0, .lst 48 b1, .int .i64 b2, .int .i64 b3, .lst 25 b4]], [] =>
    some (isX [.int .i64 a0, .lst 48 a1, .int .i64 a2, .int .i64 a3, .lst 25 a4] n && isX [.int .i64 b0, .lst 48 b1, .int .i64 b2, .int .i64 b3, .lst 25 b4] 1000000000000,
      [.bool (sameX (decX [.int .i64 a0, .lst 48 a1, .int .i64 a2, .int .i64 a3, .lst 25 a4]) (decX [.int .i64 b0, .lst 48 b1, .int .i64 b2, .int .i64 b3, .lst 25 b4]))])
  | _, _ => none)
noncomputable def k_EqXs (n : Nat) : Nat × Con := (n_slices_EqualFunc, fun
  | [.lf (.lst 25 xs), .lf (.lst 25 ys), .lf (.clo 14 [])], [] => some (isXs xs n && isXs ys 1000000000000, [.bool (sameXs (decXs xs) (decXs ys))])
  | _, _ => none)
noncomputable def k_rSame (n : Nat) : Nat × Con := (n_codesearchref08_Same, fun
  | [.agg [.int .i64 a0, .lst 48 a1, .int .i64 a2, .int .i64 a3, .lst 25 a4], .agg [.int .i64 b0, .lst 48 b1, .int .i64 b2, .int .i64 b3, .lst 25 b4]], [] =>
    some (isX [.int .i64 a0, .lst 48 a1, .int .i64 a2, .int .i64 a3, .lst 25 a4] n && isX [.int .i64 b0, .lst 48 b1, .int .i64 b2, .int .i64 b3, .lst 25 b4] 1000000000000,
      [.bool (sameX (decX [.int .i64 a0, .lst 48 a1, .int .i64 a2, .int .i64 a3, .lst 25 a4]) (decX [.int .i64 b0, .lst 48 b1, .int .i64 b2, .int .i64 b3, .lst 25 b4]))])
  | _, _ => none)
end Go.Ab
namespace Go.Ab
open Go.Proofs
/-! codesearch/regex.Has$1 -/
theorem HasFn_e (G : Req → R) (lo : Int) (hi : Int) (c : Int) : runB (cfg []) G (.enter 44 [(.agg [(.int IntKind.u8 (lo)), (.int IntKind.u8 (hi))]), (.lf (.ptr 0 0))] [(.box [(.int IntKind.u8)] [(.int IntKind.u8 (c))])]) =
  (cond (leI lo c)
   (some [(.bool (leI c hi)), (.int IntKind.u8 (c))])
   (some [(.bool (false)), (.int IntKind.u8 (c))])) := by kernel_rfl

/-! slices.IndexFunc[[]codesearch/api.Range,codesearch/api.Range] -/
noncomputable def IndexFn_q2 (s0 : List (List L)) (x7 : Int) (x8 : Int) (h0_0 : Int) : Req := .point 60 [(some ([(.int IntKind.u8)], [.any]))] (todoAt Tryd.prog 60 2) ⟨[(.lf (.lst 48 s0)), (.lf (.clo 44 [(.ptr 0 0)])), an, an, an, an, an, (.lf (.int IntKind.i64 x7)), (.lf (.int IntKind.i64 x8)), an, an, an, an, an, an, an, an, an, an], [(.box [(.int IntKind.u8)] [(.int IntKind.u8 h0_0)])]⟩
theorem IndexFn_e (G : Req → R) (xs : List (List L)) (c : Int) : runB (cfg [k_HasFn]) G (.enter 60 [(.lf (.lst 48 xs)), (.lf (.clo 44 [(.ptr 0 0)]))] [(.box [(.int IntKind.u8)] [(.int IntKind.u8 (c))])]) =
  (G (IndexFn_q2 xs ((↑(List.length xs) : Int)) 0 c)) := by kernel_rfl
theorem IndexFn_p2 (G : Req → R) (s0 : List (List L)) (x7 : Int) (x8 : Int) (h0_0 : Int) : runB (cfg [k_HasFn]) G (IndexFn_q2 s0 x7 x8 h0_0) =
  (cond (ltI x8 x7)
   (cond (leI 0 x8 && ltI x8 (↑(List.length s0) : Int))
    (cond (leI (cI 0 (atL s0 x8)) h0_0 && leI h0_0 (cI 1 (atL s0 x8)))
     (some [(.int IntKind.i64 (x8)), (.int IntKind.u8 (h0_0))])
     (G (IndexFn_q2 s0 x7 (wrapI IntKind.i64 (x8 + 1)) h0_0)))
    none)
   (some [(.int IntKind.i64 (-1)), (.int IntKind.u8 (h0_0))])) := by kernel_rfl

/-! slices.ContainsFunc[[]codesearch/api.Range,codesearch/api.Range] -/
theorem ContFn_e (G : Req → R) (xs : List (List L)) (c : Int) : runB (cfg [k_IndexFn]) G (.enter 43 [(.lf (.lst 48 xs)), (.lf (.clo 44 [(.ptr 0 0)]))] [(.box [(.int IntKind.u8)] [(.int IntKind.u8 (c))])]) =
  (cond (isRs xs)
   (some [(.bool (leI 0 (ixHas (decRs xs) c))), (.int IntKind.u8 (c))])
   none) := by kernel_rfl

/-! codesearch/regex.Has -/
theorem Has_e (G : Req → R) (set0 : List (List L)) (c1 : Int) : runB (cfg [k_ContFn]) G (.enter 20 [(.lf (.lst 48 set0)), (.lf (.int IntKind.u8 (c1)))] []) =
  (cond (isRs set0)
   (some [(.bool (leI 0 (ixHas (decRs set0) c1)))])
   none) := by kernel_rfl

/-! codesearch/codesearchref08.Has -/
noncomputable def rHas_q2 (set0 : List (List L)) (c1 : Int) (i5 : Int) : Req := .point 21 [] (todoAt Tryd.prog 21 2) ⟨[(.lf (.lst 48 set0)), (.lf (.int IntKind.u8 c1)), an, an, an, (.lf (.int IntKind.i64 i5)), an, an, an, an, an, an, an, an, an, an, an, an, an, an, an, an, an, an, an, an, an, an], []⟩
theorem rHas_e (G : Req → R) (set0 : List (List L)) (c1 : Int) : runB (cfg []) G (.enter 21 [(.lf (.lst 48 set0)), (.lf (.int IntKind.u8 (c1)))] []) =
  (G (rHas_q2 set0 c1 0)) := by kernel_rfl
theorem rHas_p2 (G : Req → R) (set0 : List (List L)) (c1 : Int) (i5 : Int) : runB (cfg []) G (rHas_q2 set0 c1 i5) =
  (cond (ltI i5 (↑(List.length set0) : Int))
   (cond (leI 0 i5 && ltI i5 (↑(List.length set0) : Int))
    (cond (leI (cI 0 (atL set0 i5)) c1)
     (cond (leI 0 i5 && ltI i5 (↑(List.length set0) : Int))
      (cond (leI c1 (cI 1 (atL set0 i5)))
       (some [(.bool (true))])
       (G (rHas_q2 set0 c1 (wrapI IntKind.i64 (i5 + 1)))))
      none)
     (G (rHas_q2 set0 c1 (wrapI IntKind.i64 (i5 + 1)))))
    none)
   (some [(.bool (false))])) := by kernel_rfl

/-! slices.Equal[[]codesearch/api.Range,codesearch/api.Range] -/
noncomputable def EqRs_q4 (s10 : List (List L)) (s21 : List (List L)) (x12 : Int) (x13 : Int) : Req := .point 36 [] (todoAt Tryd.prog 36 4) ⟨[(.lf (.lst 48 s10)), (.lf (.lst 48 s21)), an, an, an, an, an, an, an, an, an, an, (.lf (.int IntKind.i64 x12)), (.lf (.int IntKind.i64 x13)), an, an, an, an, an, an, an, an, an, an, an, an], []⟩
theorem EqRs_e (G : Req → R) (s10 : List (List L)) (s21 : List (List L)) : runB (cfg []) G (.enter 36 [(.lf (.lst 48 s10)), (.lf (.lst 48 s21))] []) =
  (cond ((↑(List.length s10) : Int) != (↑(List.length s21) : Int))
   (some [(.bool (false))])
   (G (EqRs_q4 s10 s21 ((↑(List.length s10) : Int)) 0))) := by kernel_rfl
theorem EqRs_p4 (G : Req → R) (s10 : List (List L)) (s21 : List (List L)) (x12 : Int) (x13 : Int) : runB (cfg []) G (EqRs_q4 s10 s21 x12 x13) =
  (cond (ltI x13 x12)
   (cond (leI 0 x13 && ltI x13 (↑(List.length s10) : Int))
    (cond (leI 0 x13 && ltI x13 (↑(List.length s21) : Int))
     (cond (!(cI 0 (atL s10 x13) == cI 0 (atL s21 x13) && (cI 1 (atL s10 x13) == cI 1 (atL s21 x13) && true)))
      (some [(.bool (false))])
      (G (EqRs_q4 s10 s21 x12 (wrapI IntKind.i64 (x13 + 1)))))
     none)
    none)
   (some [(.bool (true))])) := by kernel_rfl

/-! codesearch/codesearchref08.sameSet -/
noncomputable def sameSet_q4 (a0 : List (List L)) (b1 : List (List L)) (i5 : Int) : Req := .point 38 [] (todoAt Tryd.prog 38 4) ⟨[(.lf (.lst 48 a0)), (.lf (.lst 48 b1)), an, an, an, (.lf (.int IntKind.i64 i5)), an, an, an, an, an, an, an, an, an, an, an, an, an, an, an, an, an, an, an, an, an, an, an, an, an, an, an, an, an, an, an, an, an, an, an], []⟩
theorem sameSet_e (G : Req → R) (a0 : List (List L)) (b1 : List (List L)) : runB (cfg []) G (.enter 38 [(.lf (.lst 48 a0)), (.lf (.lst 48 b1))] []) =
  (cond ((↑(List.length a0) : Int) != (↑(List.length b1) : Int))
   (some [(.bool (false))])
   (G (sameSet_q4 a0 b1 0))) := by kernel_rfl
theorem sameSet_p4 (G : Req → R) (a0 : List (List L)) (b1 : List (List L)) (i5 : Int) : runB (cfg []) G (sameSet_q4 a0 b1 i5) =
  (cond (ltI i5 (↑(List.length a0) : Int))
   (cond (leI 0 i5 && ltI i5 (↑(List.length a0) : Int))
    (cond (leI 0 i5 && ltI i5 (↑(List.length b1) : Int))
     (cond (cI 0 (atL a0 i5) != cI 0 (atL b1 i5))
      (some [(.bool (false))])
      (cond (leI 0 i5 && ltI i5 (↑(List.length a0) : Int))
       (cond (leI 0 i5 && ltI i5 (↑(List.length b1) : Int))
        (cond (cI 1 (atL a0 i5) != cI 1 (atL b1 i5))
         (some [(.bool (false))])
         (G (sameSet_q4 a0 b1 (wrapI IntKind.i64 (i5 + 1)))))
        none)
       none))
     none)
    none)
   (some [(.bool (true))])) := by kernel_rfl

/-! slices.EqualFunc[[]codesearch/api.Regex,[]codesearch/api.Regex,codesearch/api.Regex,codesearch/api.Regex] -/
noncomputable def EqXs_q4 (s21 : List (List L)) (x15 : List (List L)) (x16 : Int) (x17 : Int) : Req := .point 37 [] (todoAt Tryd.prog 37 4) ⟨[an, (.lf (.lst 25 s21)), (.lf (.clo 14 [])), an, an, an, an, an, an, an, an, an, an, an, an, (.lf (.lst 25 x15)), (.lf (.int IntKind.i64 x16)), (.lf (.int IntKind.i64 x17)), an, an, an, an, an, an, an, an, an, an, an, an, an, an], []⟩
theorem EqXs_e (G : Req → R) (n : Nat) (xs : List (List L)) (ys : List (List L)) : runB (cfg [(k_Same n)]) G (.enter 37 [(.lf (.lst 25 xs)), (.lf (.lst 25 ys)), (.lf (.clo 14 []))] []) =
  (cond ((↑(List.length xs) : Int) != (↑(List.length ys) : Int))
   (some [(.bool (false))])
   (G (EqXs_q4 ys xs ((↑(List.length xs) : Int)) 0))) := by kernel_rfl
theorem EqXs_p4 (G : Req → R) (n : Nat) (s21 : List (List L)) (x15 : List (List L)) (x16 : Int) (x17 : Int) : runB (cfg [(k_Same n)]) G (EqXs_q4 s21 x15 x16 x17) =
  (cond (ltI x17 x16)
   (cond (leI 0 x17 && ltI x17 (↑(List.length x15) : Int))
    (cond (leI 0 x17 && ltI x17 (↑(List.length s21) : Int))
     (cond (isX [L.int IntKind.i64 (cI 0 (atL x15 x17)), L.lst 48 (cX 1 (atL x15 x17)), L.int IntKind.i64 (cI 2 (atL x15 x17)), L.int IntKind.i64 (cI 3 (atL x15 x17)), L.lst 25 (cX 4 (atL x15 x17))] n && isX [L.int IntKind.i64 (cI 0 (atL s21 x17)), L.lst 48 (cX 1 (atL s21 x17)), L.int IntKind.i64 (cI 2 (atL s21 x17)), L.int IntKind.i64 (cI 3 (atL s21 x17)), L.lst 25 (cX 4 (atL s21 x17))] 1000000000000)
      (cond (!sameX (decX [L.int IntKind.i64 (cI 0 (atL x15 x17)), L.lst 48 (cX 1 (atL x15 x17)), L.int IntKind.i64 (cI 2 (atL x15 x17)), L.int IntKind.i64 (cI 3 (atL x15 x17)), L.lst 25 (cX 4 (atL x15 x17))]) (decX [L.int IntKind.i64 (cI 0 (atL s21 x17)), L.lst 48 (cX 1 (atL s21 x17)), L.int IntKind.i64 (cI 2 (atL s21 x17)), L.int IntKind.i64 (cI 3 (atL s21 x17)), L.lst 25 (cX 4 (atL s21 x17))]))
       (some [(.bool (false))])
       (G (EqXs_q4 s21 x15 x16 (wrapI IntKind.i64 (x17 + 1)))))
      none)
     none)
    none)
   (some [(.bool (true))])) := by kernel_rfl

/-! codesearch/regex.Same -/
theorem Same_e (G : Req → R) (n : Nat) (a0_0 : Int) (a0_1 : List (List L)) (a0_2 : Int) (a0_3 : Int) (a0_4 : List (List L)) (b1_0 : Int) (b1_1 : List (List L)) (b1_2 : Int) (b1_3 : Int) (b1_4 : List (List L)) : runB (cfg [k_EqRs, (k_EqXs n)]) G (.enter 14 [(.agg [(.int IntKind.i64 (a0_0)), (.lst 48 a0_1), (.int IntKind.i64 (a0_2)), (.int IntKind.i64 (a0_3)), (.lst 25 a0_4)]), (.agg [(.int IntKind.i64 (b1_0)), (.lst 48 b1_1), (.int IntKind.i64 (b1_2)), (.int IntKind.i64 (b1_3)), (.lst 25 b1_4)])] []) =
  (cond (a0_0 == b1_0)
   (cond (a0_2 == b1_2)
    (cond (a0_3 == b1_3)
     (cond (isRs a0_1 && isRs b1_1)
      (cond (decide (decRs a0_1 = decRs b1_1))
       (cond (isXs a0_4 n && isXs b1_4 1000000000000)
        (some [(.bool (sameXs (decXs a0_4) (decXs b1_4)))])
        none)
       (some [(.bool (false))]))
      none)
     (some [(.bool (false))]))
    (some [(.bool (false))]))
   (some [(.bool (false))])) := by kernel_rfl

/-! codesearch/codesearchref08.Same -/
noncomputable def rSame_q4 (i5 : Int) (h0_0 : Int) (h0_1 : List (List L)) (h0_2 : Int) (h0_3 : Int) (h0_4 : List (List L)) (h1_0 : Int) (h1_1 : List (List L)) (h1_2 : Int) (h1_3 : Int) (h1_4 : List (List L)) : Req := .point 15 [] (todoAt Tryd.prog 15 4) ⟨[an, an, (.lf (.ptr 0 0)), (.lf (.ptr 1 0)), an, (.lf (.int IntKind.i64 i5)), an, an, an, an, an, an, an, an, an, an, an, an, an, an, an, an, an, an, an, an, an, an, an, an, an, an, an, an, an, an, an, an, an, an, an, an, an, an, an, an, an, an, an, an, an, an, an, an, an, an, an, an, an, an, an], [(.box [(.int IntKind.i64), (.sl 48), (.int IntKind.i64), (.int IntKind.i64), (.sl 25)] [(.int IntKind.i64 h0_0), (.lst 48 h0_1), (.int IntKind.i64 h0_2), (.int IntKind.i64 h0_3), (.lst 25 h0_4)]), (.box [(.int IntKind.i64), (.sl 48), (.int IntKind.i64), (.int IntKind.i64), (.sl 25)] [(.int IntKind.i64 h1_0), (.lst 48 h1_1), (.int IntKind.i64 h1_2), (.int IntKind.i64 h1_3), (.lst 25 h1_4)])]⟩
theorem rSame_e (G : Req → R) (n : Nat) (a0_0 : Int) (a0_1 : List (List L)) (a0_2 : Int) (a0_3 : Int) (a0_4 : List (List L)) (b1_0 : Int) (b1_1 : List (List L)) (b1_2 : Int) (b1_3 : Int) (b1_4 : List (List L)) : runB (cfg [k_sameSet, (k_rSame n)]) G (.enter 15 [(.agg [(.int IntKind.i64 (a0_0)), (.lst 48 a0_1), (.int IntKind.i64 (a0_2)), (.int IntKind.i64 (a0_3)), (.lst 25 a0_4)]), (.agg [(.int IntKind.i64 (b1_0)), (.lst 48 b1_1), (.int IntKind.i64 (b1_2)), (.int IntKind.i64 (b1_3)), (.lst 25 b1_4)])] []) =
  (cond (a0_0 != b1_0)
   (some [(.bool (false))])
   (cond (a0_2 != b1_2)
    (some [(.bool (false))])
    (cond (a0_3 != b1_3)
     (some [(.bool (false))])
     (cond (isRs a0_1 && isRs b1_1)
      (cond (!decide (decRs a0_1 = decRs b1_1))
       (some [(.bool (false))])
       (cond ((↑(List.length a0_4) : Int) != (↑(List.length b1_4) : Int))
        (some [(.bool (false))])
        (G (rSame_q4 0 a0_0 a0_1 a0_2 a0_3 a0_4 b1_0 b1_1 b1_2 b1_3 b1_4))))
      none)))) := by kernel_rfl
theorem rSame_p4 (G : Req → R) (n : Nat) (i5 : Int) (h0_0 : Int) (h0_1 : List (List L)) (h0_2 : Int) (h0_3 : Int) (h0_4 : List (List L)) (h1_0 : Int) (h1_1 : List (List L)) (h1_2 : Int) (h1_3 : Int) (h1_4 : List (List L)) : runB (cfg [k_sameSet, (k_rSame n)]) G (rSame_q4 i5 h0_0 h0_1 h0_2 h0_3 h0_4 h1_0 h1_1 h1_2 h1_3 h1_4) =
  (cond (ltI i5 (↑(List.length h0_4) : Int))
   (cond (leI 0 i5 && ltI i5 (↑(List.length h0_4) : Int))
    (cond (leI 0 i5 && ltI i5 (↑(List.length h1_4) : Int))
     (cond (isX [L.int IntKind.i64 (cI 0 (atL h0_4 i5)), L.lst 48 (cX 1 (atL h0_4 i5)), L.int IntKind.i64 (cI 2 (atL h0_4 i5)), L.int IntKind.i64 (cI 3 (atL h0_4 i5)), L.lst 25 (cX 4 (atL h0_4 i5))] n && isX [L.int IntKind.i64 (cI 0 (atL h1_4 i5)), L.lst 48 (cX 1 (atL h1_4 i5)), L.int IntKind.i64 (cI 2 (atL h1_4 i5)), L.int IntKind.i64 (cI 3 (atL h1_4 i5)), L.lst 25 (cX 4 (atL h1_4 i5))] 1000000000000)
      (cond (!sameX (decX [L.int IntKind.i64 (cI 0 (atL h0_4 i5)), L.lst 48 (cX 1 (atL h0_4 i5)), L.int IntKind.i64 (cI 2 (atL h0_4 i5)), L.int IntKind.i64 (cI 3 (atL h0_4 i5)), L.lst 25 (cX 4 (atL h0_4 i5))]) (decX [L.int IntKind.i64 (cI 0 (atL h1_4 i5)), L.lst 48 (cX 1 (atL h1_4 i5)), L.int IntKind.i64 (cI 2 (atL h1_4 i5)), L.int IntKind.i64 (cI 3 (atL h1_4 i5)), L.lst 25 (cX 4 (atL h1_4 i5))]))
       (some [(.bool (false))])
       (G (rSame_q4 (wrapI IntKind.i64 (i5 + 1)) h0_0 h0_1 h0_2 h0_3 h0_4 h1_0 h1_1 h1_2 h1_3 h1_4)))
      none)
     none)
    none)
   (some [(.bool (true))])) := by kernel_rfl

end Go.Ab
namespace Go.Ab
open Go.Proofs

theorem rs_at (l : List (UInt8 × UInt8)) {i : Nat} (h : i < l.length) : atL (encRs l) (i : Int) = [.int .u8 (l.getD i (0, 0)).1.toNat, .int .u8 (l.getD i (0, 0)).2.toNat] := atL_map _ l i (0, 0) h
theorem drop_at {α : Type} (d : α) {l : List α} {i : Nat} (h : i < l.length) : l.drop i = l.getD i d :: l.drop (i + 1) := by
  rw [List.drop_eq_getElem_cons h]
  simp [h]
theorem drop_end {α : Type} {l : List α} {i : Nat} (h : l.length ≤ i) : l.drop i = [] := List.drop_eq_nil_of_le h
theorem cI0 (k : IntKind) (a : Int) (l : List L) : cI 0 (.int k a :: l) = a := rfl
theorem cI1 (k : IntKind) (a : Int) (x : L) (l : List L) : cI 1 (x :: .int k a :: l) = a := rfl
theorem and_tt {a b : Bool} (h1 : a = true) (h2 : b = true) : (a && b) = true := by rw [h1, h2]; rfl

theorem HasFn_holds : Holds k_HasFn := con_run (xs := []) hold0 fun aa hp r h => by
  split at h
  case h_2 => cases h
  rename_i lo hi c
  obtain ⟨_, rfl⟩ := xo h
  refine Runs.by (HasFn_e · lo hi c) ?_
  cases leI lo c <;> exact .ret
theorem ixHas_cases : ∀ (l : List (UInt8 × UInt8)) (c : Int), (ixHas l c = -1 ∧ hasI l c = false) ∨ (0 ≤ ixHas l c ∧ hasI l c = true)
  | [], c => .inl ⟨rfl, rfl⟩
  | r :: rs, c => by
    unfold ixHas hasI
    rw [List.any_cons]
    cases h : (leI (r.1.toNat : Int) c && leI c (r.2.toNat : Int)) with
    | true => exact .inr ⟨Int.le_refl _, rfl⟩
    | false =>
      simp only [cond_false, Bool.false_or]
      rcases ixHas_cases rs c with ⟨h1, h2⟩ | ⟨h1, h2⟩
      · left; rw [h1]; exact ⟨rfl, h2⟩
      · right
        rw [ev_lt_f h1]
        exact ⟨by simp only [cond_false]; omega, h2⟩
theorem has_ix (l : List (UInt8 × UInt8)) (c : Int) : leI 0 (ixHas l c) = hasI l c := by
  rcases ixHas_cases l c with ⟨h1, h2⟩ | ⟨h1, h2⟩
  · rw [h1, h2]; rfl
  · rw [h2]; exact ev_le_t h1
def addN (v : Int) (i : Nat) : Int := cond (ltI v 0) (-1) (v + i)
theorem IndexFn_loop (l : List (UInt8 × UInt8)) (c : Int) (hl : l.length ≤ 1000000000000) : ∀ m i : Nat, i + m = l.length →
    Runs (cfg [k_HasFn]) (IndexFn_q2 (encRs l) (l.length : Nat) (i : Nat) c) [.int .i64 (addN (ixHas (l.drop i) c) i), .int .u8 c]
  | 0, i, h => by
    refine Runs.by (IndexFn_p2 · _ _ _ _) ?_
    simp (disch := omega) only [ev_lt_f, cond_false]
    rw [drop_end (by omega)]
    exact .ret
  | m + 1, i, h => by
    refine Runs.by (IndexFn_p2 · _ _ _ _) ?_
    have hi : i < l.length := by omega
    simp (disch := omega) only [encRs_len, ev_lt_t, ev_le_t, cond_true, Bool.and_self, rs_at, cI0, cI1, w64]
    rw [drop_at (0, 0) hi, ixHas]
    cases he : (leI ((l.getD i (0, 0)).1.toNat : Int) c && leI c ((l.getD i (0, 0)).2.toNat : Int)) with
    | true =>
      simp only [cond_true]
      exact .ret' (by simp [addN])
    | false =>
      simp only [cond_false]
      have ih := IndexFn_loop l c hl m (i + 1) (by omega)
      have e : addN (cond (ltI (ixHas (l.drop (i + 1)) c) 0) (-1) (ixHas (l.drop (i + 1)) c + 1)) i = addN (ixHas (l.drop (i + 1)) c) (i + 1) := by
        unfold addN
        rcases ixHas_cases (l.drop (i + 1)) c with ⟨h1, _⟩ | ⟨h1, _⟩
        · rw [h1]; rfl
        · simp (disch := omega) only [ev_lt_f, cond_false]
          omega
      rw [e]
      exact .go ih
theorem IndexFn_holds : Holds k_IndexFn := con_run (xs := [k_HasFn]) (hold1 HasFn_holds hold0) fun aa hp r h => by
  split at h
  case h_2 => cases h
  rename_i xs c
  obtain ⟨g, rfl⟩ := xo h
  obtain ⟨l, rfl, hl⟩ := isRs_of g
  rw [decRs_enc]
  refine Runs.by (IndexFn_e · _ _) ?_
  have := IndexFn_loop l c hl l.length 0 (by omega)
  rw [encRs_len]
  have e : addN (ixHas (l.drop 0) c) 0 = ixHas l c := by
    rw [List.drop_zero]
    unfold addN
    rcases ixHas_cases l c with ⟨h1, _⟩ | ⟨h1, _⟩
    · rw [h1]; rfl
    · simp (disch := omega) only [ev_lt_f, cond_false]
      omega
  rw [e] at this
  exact .go this
theorem ContFn_holds : Holds k_ContFn := con_run (xs := [k_IndexFn]) (hold1 IndexFn_holds hold0) fun aa hp r h => by
  split at h
  case h_2 => cases h
  rename_i xs c
  obtain ⟨g, rfl⟩ := xo h
  refine Runs.by (ContFn_e · _ _) ?_
  rw [g]
  exact .ret
theorem Has_holds : Holds k_Has := con_run (xs := [k_ContFn]) (hold1 ContFn_holds hold0) fun aa hp r h => by
  split at h
  case h_2 => cases h
  rename_i xs c
  obtain ⟨g, rfl⟩ := xo h
  refine Runs.by (Has_e · _ _) ?_
  rw [g]
  exact .ret' (by rw [has_ix])
theorem rHas_loop (l : List (UInt8 × UInt8)) (c : Int) (hl : l.length ≤ 1000000000000) : ∀ m i : Nat, i + m = l.length →
    Runs (cfg []) (rHas_q2 (encRs l) c (i : Nat)) [.bool (hasI (l.drop i) c)]
  | 0, i, h => by
    refine Runs.by (rHas_p2 · _ _ _) ?_
    simp (disch := omega) only [encRs_len, ev_lt_f, cond_false]
    rw [drop_end (by omega)]
    exact .ret
  | m + 1, i, h => by
    refine Runs.by (rHas_p2 · _ _ _) ?_
    have hi : i < l.length := by omega
    simp (disch := omega) only [encRs_len, ev_lt_t, ev_le_t, cond_true, Bool.and_self, rs_at, cI0, cI1, w64]
    rw [drop_at (0, 0) hi]
    have ih := rHas_loop l c hl m (i + 1) (by omega)
    unfold hasI at ih ⊢
    rw [List.any_cons]
    cases h1 : leI ((l.getD i (0, 0)).1.toNat : Int) c with
    | false => simp only [cond_false, Bool.false_and, Bool.false_or]; exact .go ih
    | true =>
      cases h2 : leI c ((l.getD i (0, 0)).2.toNat : Int) with
      | false => simp only [cond_false, cond_true, Bool.and_false, Bool.false_or]; exact .go ih
      | true => exact .ret
theorem rHas_holds : Holds k_rHas := con_run (xs := []) hold0 fun aa hp r h => by
  split at h
  case h_2 => cases h
  rename_i xs c
  obtain ⟨g, rfl⟩ := xo h
  obtain ⟨l, rfl, hl⟩ := isRs_of g
  rw [decRs_enc]
  refine Runs.by (rHas_e · _ _) ?_
  exact .go (by simpa using rHas_loop l c hl l.length 0 (by omega))

/-! ### equal sets -/
theorem pair_eq (p q : UInt8 × UInt8) : decide (p = q) = (((p.1.toNat : Int) == (q.1.toNat : Int)) && ((p.2.toNat : Int) == (q.2.toNat : Int))) := by
  obtain ⟨a, b⟩ := p
  obtain ⟨c, d⟩ := q
  rw [Bool.eq_iff_iff]
  simp only [decide_eq_true_eq, Bool.and_eq_true, beq_iff_eq, Prod.mk.injEq]
  constructor
  · rintro ⟨rfl, rfl⟩; exact ⟨rfl, rfl⟩
  · rintro ⟨h1, h2⟩
    exact ⟨UInt8.toNat_inj.1 (by omega), UInt8.toNat_inj.1 (by omega)⟩
theorem dec_cons {α : Type} [DecidableEq α] (x y : α) (xs ys : List α) : decide (x :: xs = y :: ys) = (decide (x = y) && decide (xs = ys)) := by
  rw [Bool.eq_iff_iff]; simp
theorem EqRs_loop (l m : List (UInt8 × UInt8)) (hl : l.length ≤ 1000000000000) (hm : m.length = l.length) : ∀ k i : Nat, i + k = l.length →
    Runs (cfg []) (EqRs_q4 (encRs l) (encRs m) (l.length : Nat) (i : Nat)) [.bool (decide (l.drop i = m.drop i))]
  | 0, i, h => by
    refine Runs.by (EqRs_p4 · _ _ _ _) ?_
    simp (disch := omega) only [ev_lt_f, cond_false]
    rw [drop_end (by omega), drop_end (by omega)]
    exact .ret
  | k + 1, i, h => by
    refine Runs.by (EqRs_p4 · _ _ _ _) ?_
    have hi : i < l.length := by omega
    have hi' : i < m.length := by omega
    simp (disch := omega) only [encRs_len, ev_lt_t, ev_le_t, cond_true, Bool.and_self, rs_at, cI0, cI1, w64, Bool.and_true]
    rw [drop_at (0, 0) hi, drop_at (0, 0) hi', dec_cons, pair_eq]
    cases he : (((l.getD i (0, 0)).1.toNat : Int) == ((m.getD i (0, 0)).1.toNat : Int) && ((l.getD i (0, 0)).2.toNat : Int) == ((m.getD i (0, 0)).2.toNat : Int)) with
    | false => exact .ret
    | true =>
      simp only [Bool.not_true, cond_false, Bool.true_and]
      exact .go (EqRs_loop l m hl hm k (i + 1) (by omega))
theorem len_ne {l m : List (UInt8 × UInt8)} (h : m.length ≠ l.length) : decide (l = m) = false := by
  rw [decide_eq_false_iff_not]; rintro rfl; exact h rfl
theorem EqRs_holds : Holds k_EqRs := con_run (xs := []) hold0 fun aa hp r h => by
  split at h
  case h_2 => cases h
  rename_i xs ys
  obtain ⟨g, rfl⟩ := xo h
  rw [Bool.and_eq_true] at g
  obtain ⟨l, rfl, hl⟩ := isRs_of g.1
  obtain ⟨m, rfl, hm⟩ := isRs_of g.2
  rw [decRs_enc, decRs_enc]
  refine Runs.by (EqRs_e · _ _) ?_
  by_cases e : m.length = l.length
  · simp (disch := omega) only [encRs_len, ev_ne_f, cond_false]
    exact .go (by simpa using EqRs_loop l m hl e l.length 0 (by omega))
  · simp (disch := omega) only [encRs_len, ev_ne_t, cond_true]
    exact .ret' (by rw [len_ne e])
theorem sameSet_loop (l m : List (UInt8 × UInt8)) (hl : l.length ≤ 1000000000000) (hm : m.length = l.length) : ∀ k i : Nat, i + k = l.length →
    Runs (cfg []) (sameSet_q4 (encRs l) (encRs m) (i : Nat)) [.bool (decide (l.drop i = m.drop i))]
  | 0, i, h => by
    refine Runs.by (sameSet_p4 · _ _ _) ?_
    simp (disch := omega) only [encRs_len, ev_lt_f, cond_false]
    rw [drop_end (by omega), drop_end (by omega)]
    exact .ret
  | k + 1, i, h => by
    refine Runs.by (sameSet_p4 · _ _ _) ?_
    have hi : i < l.length := by omega
    have hi' : i < m.length := by omega
    simp (disch := omega) only [encRs_len, ev_lt_t, ev_le_t, cond_true, Bool.and_self, rs_at, cI0, cI1, w64]
    rw [drop_at (0, 0) hi, drop_at (0, 0) hi', dec_cons, pair_eq]
    simp only [bne]
    cases ((l.getD i (0, 0)).1.toNat : Int) == ((m.getD i (0, 0)).1.toNat : Int) with
    | false => exact .ret
    | true =>
      cases ((l.getD i (0, 0)).2.toNat : Int) == ((m.getD i (0, 0)).2.toNat : Int) with
      | false => exact .ret
      | true =>
        simp only [Bool.not_true, cond_false, Bool.true_and]
        exact .go (sameSet_loop l m hl hm k (i + 1) (by omega))
theorem sameSet_holds : Holds k_sameSet := con_run (xs := []) hold0 fun aa hp r h => by
  split at h
  case h_2 => cases h
  rename_i xs ys
  obtain ⟨g, rfl⟩ := xo h
  rw [Bool.and_eq_true] at g
  obtain ⟨l, rfl, hl⟩ := isRs_of g.1
  obtain ⟨m, rfl, hm⟩ := isRs_of g.2
  rw [decRs_enc, decRs_enc]
  refine Runs.by (sameSet_e · _ _) ?_
  by_cases e : m.length = l.length
  · simp (disch := omega) only [encRs_len, ev_ne_f, cond_false]
    exact .go (by simpa using sameSet_loop l m hl e l.length 0 (by omega))
  · simp (disch := omega) only [encRs_len, ev_ne_t, cond_true]
    exact .ret' (by rw [len_ne e])
end Go.Ab
namespace Go.Ab
open Go.Proofs

theorem enc5 (x : Rx) : [L.int .i64 x.kind, .lst 48 (encRs x.set), .int .i64 x.mn, .int .i64 x.mx, .lst 25 (x.subs.map encX)] = encX x := (encX_eq x).symm
theorem el_enc (x : Rx) : [L.int .i64 (cI 0 (encX x)), .lst 48 (cX 1 (encX x)), .int .i64 (cI 2 (encX x)), .int .i64 (cI 3 (encX x)), .lst 25 (cX 4 (encX x))] = encX x := by
  rw [encX_eq]; rfl
theorem xs_at (l : List Rx) {i : Nat} (h : i < l.length) : atL (l.map encX) (i : Int) = encX (l.getD i default) := atL_map _ l i default h
theorem sameX_eq (x y : Rx) : sameX x y = ((x.kind == y.kind) && ((x.mn == y.mn) && ((x.mx == y.mx) && (decide (x.set = y.set) && sameXs x.subs y.subs)))) := by
  obtain ⟨k, s, a, b, ss⟩ := x
  obtain ⟨k', s', a', b', ss'⟩ := y
  unfold sameX sameXs
  classical
  rw [Bool.eq_iff_iff]
  simp only [decide_eq_true_eq, Bool.and_eq_true, beq_iff_eq, Rx.mk.injEq, Rx.kind, Rx.set, Rx.mn, Rx.mx, Rx.subs]
  constructor
  · rintro ⟨h1, h2, h3, h4, h5⟩; exact ⟨h1, h3, h4, decide_eq_true h2, decide_eq_true h5⟩
  · rintro ⟨h1, h3, h4, h2, h5⟩; exact ⟨h1, of_decide_eq_true h2, h3, h4, of_decide_eq_true h5⟩
theorem sameXs_cons (x y : Rx) (xs ys : List Rx) : sameXs (x :: xs) (y :: ys) = (sameX x y && sameXs xs ys) := by
  unfold sameX sameXs
  classical
  rw [Bool.eq_iff_iff]
  simp
theorem sameXs_nil : sameXs [] [] = true := by unfold sameXs; classical simp
theorem sameXs_len {xs ys : List Rx} (h : ys.length ≠ xs.length) : sameXs xs ys = false := by
  unfold sameXs
  classical
  rw [decide_eq_false_iff_not]; rintro rfl; exact h rfl
theorem decXs_enc (l : List Rx) : decXs (l.map encX) = l := by
  unfold decXs
  rw [List.map_map]
  exact (List.map_congr_left fun x _ => decX_enc x).trans (List.map_id l)
theorem isXs_of {xs : List (List L)} {n : Nat} (h : isXs xs n = true) : ∃ l : List Rx, xs = l.map encX ∧ l.length ≤ 1000000000000 ∧ ∀ x ∈ l, x.ok ∧ x.lev ≤ n := by
  unfold isXs at h
  rw [Bool.and_eq_true] at h
  obtain ⟨h1, h2⟩ := h
  rw [List.all_eq_true] at h2
  refine ⟨xs.map decX, ?_, by rw [List.length_map]; exact Nat.le_of_ble_eq_true h1, fun x hx => ?_⟩
  · rw [List.map_map]
    symm
    refine (List.map_congr_left (g := id) fun e he => ?_).trans (List.map_id xs)
    obtain ⟨x, rfl, _⟩ := isX_of (h2 e he)
    simp [decX_enc]
  · obtain ⟨e, he, rfl⟩ := List.mem_map.1 hx
    obtain ⟨x, rfl, hx'⟩ := isX_of (h2 e he)
    rw [decX_enc]
    exact hx'
theorem isXs_enc {l : List Rx} {n : Nat} (hl : l.length ≤ 1000000000000) (h : ∀ x ∈ l, x.ok ∧ x.lev ≤ n) : isXs (l.map encX) n = true := by
  unfold isXs
  rw [List.length_map, ev_blt hl, Bool.true_and, List.all_eq_true]
  intro e he
  obtain ⟨x, hx, rfl⟩ := List.mem_map.1 he
  exact isX_enc (h x hx).1 (h x hx).2
theorem isXs_sub {x : Rx} {n : Nat} (h : x.ok) (hl : x.lev ≤ n + 1) : isXs (x.subs.map encX) n = true :=
  isXs_enc (ok_subs h) fun y hy => ⟨ok_sub h hy, by have := lev_sub hy; omega⟩
theorem isX5 {a0 a2 a3 : Int} {a1 a4 : List (List L)} {n : Nat} (h : isX [.int .i64 a0, .lst 48 a1, .int .i64 a2, .int .i64 a3, .lst 25 a4] n = true) :
    ∃ x : Rx, a0 = x.kind ∧ a1 = encRs x.set ∧ a2 = x.mn ∧ a3 = x.mx ∧ a4 = x.subs.map encX ∧ x.ok ∧ x.lev ≤ n := by
  obtain ⟨x, e, h1, h2⟩ := isX_of h
  rw [encX_eq] at e
  simp only [List.cons.injEq, L.int.injEq, L.lst.injEq, true_and, and_true] at e
  exact ⟨x, e.1, e.2.1, e.2.2.1, e.2.2.2.1, e.2.2.2.2, h1, h2⟩

theorem same5 (x y : Rx) : sameX (decX [L.int .i64 x.kind, .lst 48 (encRs x.set), .int .i64 x.mn, .int .i64 x.mx, .lst 25 (x.subs.map encX)]) (decX [L.int .i64 y.kind, .lst 48 (encRs y.set), .int .i64 y.mn, .int .i64 y.mx, .lst 25 (y.subs.map encX)]) = ((x.kind == y.kind) && ((x.mn == y.mn) && ((x.mx == y.mx) && (decide (x.set = y.set) && sameXs x.subs y.subs)))) := by
  rw [enc5, enc5, decX_enc, decX_enc, sameX_eq]
theorem EqXs_loop {n : Nat} (l m : List Rx) (hl : l.length ≤ 1000000000000) (hm : m.length = l.length) (h1 : ∀ x ∈ l, x.ok ∧ x.lev ≤ n) (h2 : ∀ x ∈ m, x.ok ∧ x.lev ≤ 1000000000000) : ∀ k i : Nat, i + k = l.length →
    Runs (cfg [k_Same n]) (EqXs_q4 (m.map encX) (l.map encX) (l.length : Nat) (i : Nat)) [.bool (sameXs (l.drop i) (m.drop i))]
  | 0, i, h => by
    refine Runs.by (EqXs_p4 · _ _ _ _ _) ?_
    simp (disch := omega) only [ev_lt_f, cond_false]
    rw [drop_end (by omega), drop_end (by omega), sameXs_nil]
    exact .ret
  | k + 1, i, h => by
    refine Runs.by (EqXs_p4 · _ _ _ _ _) ?_
    have hi : i < l.length := by omega
    have hi' : i < m.length := by omega
    have m1 : l.getD i default ∈ l := by simp [List.getD_eq_getElem?_getD, hi]
    have m2 : m.getD i default ∈ m := by simp [List.getD_eq_getElem?_getD, hi']
    simp (disch := omega) only [List.length_map, ev_lt_t, ev_le_t, cond_true, Bool.and_self, xs_at, el_enc, w64]
    rw [isX_enc (h1 _ m1).1 (h1 _ m1).2, isX_enc (h2 _ m2).1 (h2 _ m2).2, decX_enc, decX_enc]
    rw [drop_at default hi, drop_at default hi', sameXs_cons]
    cases sameX (l.getD i default) (m.getD i default) with
    | false => exact .ret
    | true =>
      simp only [Bool.and_self, Bool.not_true, cond_false, cond_true, Bool.true_and]
      exact .go (EqXs_loop l m hl hm h1 h2 k (i + 1) (by omega))
theorem EqXs_holds {n : Nat} (hS : Holds (k_Same n)) : Holds (k_EqXs n) := con_run (xs := [k_Same n]) (hold1 hS hold0) fun aa hp r h => by
  split at h
  case h_2 => cases h
  rename_i xs ys
  obtain ⟨g, rfl⟩ := xo h
  rw [Bool.and_eq_true] at g
  obtain ⟨l, rfl, hl, h1⟩ := isXs_of g.1
  obtain ⟨m, rfl, hm, h2⟩ := isXs_of g.2
  rw [decXs_enc, decXs_enc]
  refine Runs.by (EqXs_e · _ _ _) ?_
  by_cases e : m.length = l.length
  · simp (disch := omega) only [List.length_map, ev_ne_f, cond_false]
    exact .go (by simpa using EqXs_loop l m hl e h1 h2 l.length 0 (by omega))
  · simp (disch := omega) only [List.length_map, ev_ne_t, cond_true]
    exact .ret' (by rw [sameXs_len e])
theorem no_lev {x : Rx} (h : x.lev ≤ 0) : False := by rw [lev_eq] at h; omega
theorem Same_holds : ∀ n, Holds (k_Same n)
  | 0 => con_run (xs := []) hold0 fun aa hp r h => by
    split at h
    case h_2 => cases h
    obtain ⟨g, rfl⟩ := xo h
    rw [Bool.and_eq_true] at g
    obtain ⟨x, _, _, _, _, _, _, hx⟩ := isX5 g.1
    exact (no_lev hx).elim
  | n + 1 => con_run (xs := [k_EqRs, k_EqXs n]) (hold1 EqRs_holds (hold1 (EqXs_holds (Same_holds n)) hold0)) fun aa hp r h => by
    split at h
    case h_2 => cases h
    obtain ⟨g, rfl⟩ := xo h
    rw [Bool.and_eq_true] at g
    obtain ⟨x, rfl, rfl, rfl, rfl, rfl, ho, hx⟩ := isX5 g.1
    obtain ⟨y, rfl, rfl, rfl, rfl, rfl, ho', hx'⟩ := isX5 g.2
    rw [same5]
    refine Runs.by (Same_e · _ _ _ _ _ _ _ _ _ _ _) ?_
    rw [isRs_enc (ok_set ho), isRs_enc (ok_set ho'), decRs_enc, decRs_enc, isXs_sub ho hx, decXs_enc, decXs_enc]
    rw [isXs_sub ho' (n := 1000000000000) (by omega)]
    cases x.kind == y.kind with
    | false => exact .ret
    | true =>
      cases x.mn == y.mn with
      | false => exact .ret
      | true =>
        cases x.mx == y.mx with
        | false => exact .ret
        | true =>
          cases decide (x.set = y.set) with
          | false => exact .ret
          | true => exact .ret

theorem rSame_loop {n : Nat} (a0 : Int) (a1 : List (List L)) (a2 a3 : Int) (b0 : Int) (b1 : List (List L)) (b2 b3 : Int) (l m : List Rx) (hl : l.length ≤ 1000000000000) (hm : m.length = l.length) (h1 : ∀ x ∈ l, x.ok ∧ x.lev ≤ n) (h2 : ∀ x ∈ m, x.ok ∧ x.lev ≤ 1000000000000) : ∀ k i : Nat, i + k = l.length →
    Runs (cfg [k_sameSet, k_rSame n]) (rSame_q4 (i : Nat) a0 a1 a2 a3 (l.map encX) b0 b1 b2 b3 (m.map encX)) [.bool (sameXs (l.drop i) (m.drop i))]
  | 0, i, h => by
    refine Runs.by (rSame_p4 · _ _ _ _ _ _ _ _ _ _ _ _) ?_
    simp (disch := omega) only [List.length_map, ev_lt_f, cond_false]
    rw [drop_end (by omega), drop_end (by omega), sameXs_nil]
    exact .ret
  | k + 1, i, h => by
    refine Runs.by (rSame_p4 · _ _ _ _ _ _ _ _ _ _ _ _) ?_
    have hi : i < l.length := by omega
    have hi' : i < m.length := by omega
    have m1 : l.getD i default ∈ l := by simp [List.getD_eq_getElem?_getD, hi]
    have m2 : m.getD i default ∈ m := by simp [List.getD_eq_getElem?_getD, hi']
    simp (disch := omega) only [List.length_map, ev_lt_t, ev_le_t, cond_true, Bool.and_self, xs_at, el_enc, w64]
    rw [isX_enc (h1 _ m1).1 (h1 _ m1).2, isX_enc (h2 _ m2).1 (h2 _ m2).2, decX_enc, decX_enc]
    rw [drop_at default hi, drop_at default hi', sameXs_cons]
    cases sameX (l.getD i default) (m.getD i default) with
    | false => exact .ret
    | true =>
      simp only [Bool.and_self, Bool.not_true, cond_false, cond_true, Bool.true_and]
      exact .go (rSame_loop a0 a1 a2 a3 b0 b1 b2 b3 l m hl hm h1 h2 k (i + 1) (by omega))
theorem rSame_holds : ∀ n, Holds (k_rSame n)
  | 0 => con_run (xs := []) hold0 fun aa hp r h => by
    split at h
    case h_2 => cases h
    obtain ⟨g, rfl⟩ := xo h
    rw [Bool.and_eq_true] at g
    obtain ⟨x, _, _, _, _, _, _, hx⟩ := isX5 g.1
    exact (no_lev hx).elim
  | n + 1 => con_run (xs := [k_sameSet, k_rSame n]) (hold1 sameSet_holds (hold1 (rSame_holds n) hold0)) fun aa hp r h => by
    split at h
    case h_2 => cases h
    obtain ⟨g, rfl⟩ := xo h
    rw [Bool.and_eq_true] at g
    obtain ⟨x, rfl, rfl, rfl, rfl, rfl, ho, hx⟩ := isX5 g.1
    obtain ⟨y, rfl, rfl, rfl, rfl, rfl, ho', hx'⟩ := isX5 g.2
    rw [same5]
    refine Runs.by (rSame_e · _ _ _ _ _ _ _ _ _ _ _) ?_
    rw [isRs_enc (ok_set ho), isRs_enc (ok_set ho'), decRs_enc, decRs_enc]
    simp only [bne]
    cases x.kind == y.kind with
    | false => exact .ret
    | true =>
      cases x.mn == y.mn with
      | false => exact .ret
      | true =>
        cases x.mx == y.mx with
        | false => exact .ret
        | true =>
          cases decide (x.set = y.set) with
          | false => exact .ret
          | true =>
            simp only [Bool.not_true, cond_false, cond_true, Bool.and_self, Bool.true_and]
            by_cases e : y.subs.length = x.subs.length
            · have e' : (((x.subs.map encX).length : Nat) : Int) == (((y.subs.map encX).length : Nat) : Int) := by simp [e]
              rw [e']
              exact .go (by simpa using rSame_loop (n := n) _ _ _ _ _ _ _ _ x.subs y.subs (ok_subs ho) e (fun z hz => ⟨ok_sub ho hz, by have := lev_sub hz; omega⟩) (fun z hz => ⟨ok_sub ho' hz, by have := lev_sub hz; omega⟩) x.subs.length 0 (by omega))
            · have e' : ((((x.subs.map encX).length : Nat) : Int) == (((y.subs.map encX).length : Nat) : Int)) = false := by
                simp only [List.length_map, beq_eq_false_iff_ne, ne_eq]; omega
              rw [e']
              exact .ret' (by rw [sameXs_len e])
end Go.Ab
namespace Go.Ab
open Go.Proofs

noncomputable def isXa (e : List L) : Bool := open Classical in decide (∃ x : Rx, e = encX x)
theorem isXa_enc (x : Rx) : isXa (encX x) = true := by
  unfold isXa
  classical exact decide_eq_true ⟨x, rfl⟩
theorem isXa_of {e : List L} (h : isXa e = true) : ∃ x : Rx, e = encX x := by
  unfold isXa at h
  classical exact of_decide_eq_true h
/-- The law's own size. -/
def lszL (f : Rx → Int) : Int → List Rx → Int
  | a, [] => a
  | a, x :: xs => cond (ltI a 1000) (lszL f (a + f x) xs) a
def lsz : Nat → Rx → Int
  | 0, x => 1000
  | n + 1, x => cond (ltI 50 (x.set.length : Nat) || ltI 100 (x.subs.length : Nat)) 1000 (lszL (lsz n) 1 x.subs)
def smallX (x : Rx) : Bool := leI (lsz 30 x) 100
noncomputable def k_lsize (k : Nat) : Nat × Con := (n_codesearchlaw08_size, fun
  | [.agg [.int .i64 a0, .lst 48 a1, .int .i64 a2, .int .i64 a3, .lst 25 a4], .lf (.int .i64 n)], [] =>
    some (isXa [.int .i64 a0, .lst 48 a1, .int .i64 a2, .int .i64 a3, .lst 25 a4] && (leI 0 n && (ltI n k && leI n 999)), [.int .i64 (lsz n.toNat (decX [.int .i64 a0, .lst 48 a1, .int .i64 a2, .int .i64 a3, .lst 25 a4]))])
  | _, _ => none)
noncomputable def k_small : Nat × Con := (n_codesearchlaw08_small, fun
  | [.agg [.int .i64 a0, .lst 48 a1, .int .i64 a2, .int .i64 a3, .lst 25 a4]], [] =>
    some (isXa [.int .i64 a0, .lst 48 a1, .int .i64 a2, .int .i64 a3, .lst 25 a4], [.bool (smallX (decX [.int .i64 a0, .lst 48 a1, .int .i64 a2, .int .i64 a3, .lst 25 a4]))])
  | _, _ => none)
/-- Of one expression, to several cells. -/
noncomputable def cX1 (n : Nat) (f : Rx → List L) : Con
  | [.agg [.int .i64 a0, .lst 48 a1, .int .i64 a2, .int .i64 a3, .lst 25 a4]], [] =>
    some (isX [.int .i64 a0, .lst 48 a1, .int .i64 a2, .int .i64 a3, .lst 25 a4] n, f (decX [.int .i64 a0, .lst 48 a1, .int .i64 a2, .int .i64 a3, .lst 25 a4]))
  | _, _ => none
noncomputable def k_size (n : Nat) : Nat × Con := (n_regex_size, cX1 n fun x => [.int .i64 (x.nodes : Nat), .int .i64 (x.lev : Nat)])
noncomputable def k_rSize (n : Nat) : Nat × Con := (n_codesearchref08_Size, cX1 n fun x => [.int .i64 (x.nodes : Nat)])
noncomputable def k_rDepth (n : Nat) : Nat × Con := (n_codesearchref08_Depth, cX1 n fun x => [.int .i64 (x.lev : Nat)])
/-- The fields agree. -/
def fieldsP (x : Rx) : Prop := 1 ≤ x.kind ∧ x.kind ≤ 7 ∧ (x.kind = 1 ↔ 0 < x.set.length) ∧ (∀ r ∈ x.set, r.1.toNat ≤ r.2.toNat) ∧ (x.kind = 4 → x.subs.length = 1) ∧ (x.kind = 3 → 2 ≤ x.subs.length) ∧
  (x.kind ≠ 2 ∧ x.kind ≠ 3 ∧ x.kind ≠ 4 → x.subs.length = 0) ∧ (x.kind ≠ 4 → x.mn = 0 ∧ x.mx = 0)
instance (x : Rx) : Decidable (fieldsP x) := by unfold fieldsP; infer_instance
def cntP (x : Rx) : Prop := x.kind = 4 ∧ (x.mn < 0 ∨ 8 < x.mn ∨ (x.mx ≠ -1 ∧ (x.mx < 1 ∨ 8 < x.mx ∨ x.mx < x.mn)))
instance (x : Rx) : Decidable (cntP x) := by unfold cntP; infer_instance
mutual
def nodeS : Rx → Int
  | .mk k s mn mx ss => if ¬ fieldsP (.mk k s mn mx ss) then 1 else if cntP (.mk k s mn mx ss) then 2 else nodeSL ss
def nodeSL : List Rx → Int
  | [] => 0
  | x :: xs => cond (nodeS x != 0) (nodeS x) (nodeSL xs)
end
theorem nodeS_eq (x : Rx) : nodeS x = if ¬ fieldsP x then 1 else if cntP x then 2 else nodeSL x.subs := by cases x; rw [nodeS]; rfl
noncomputable def k_node (n : Nat) : Nat × Con := (n_regex_node, cX1 n fun x => [.int .i64 (nodeS x)])
noncomputable def k_rnode (n : Nat) : Nat × Con := (n_codesearchref08_node, cX1 n fun x => [.int .i64 (nodeS x)])
noncomputable def k_fields : Nat × Con := (n_codesearchref08_fields, cX1 1000000000000 fun x => [.bool (decide (fieldsP x))])
def rightS (x : Rx) : Int := cond (nodeS x != 0) (nodeS x) (cond (ltI 40 (x.nodes : Nat) || ltI 12 (x.lev : Nat)) 4 0)
noncomputable def k_Right : Nat × Con := (n_regex_Right, cX1 1000000000000 fun x => [.int .i64 (rightS x)])
noncomputable def k_rRight : Nat × Con := (n_codesearchref08_Right, cX1 1000000000000 fun x => [.int .i64 (rightS x)])
end Go.Ab
namespace Go.Ab
open Go.Proofs
/-! codesearch/codesearchlaw08.size -/
noncomputable def lsize_q5 (levels1 : Int) (n5 : Int) (i6 : Int) (h0_0 : Int) (h0_1 : List (List L)) (h0_2 : Int) (h0_3 : Int) (h0_4 : List (List L)) : Req := .point 30 [] (todoAt Tryd.prog 30 5) ⟨[an, (.lf (.int IntKind.i64 levels1)), (.lf (.ptr 0 0)), an, an, (.lf (.int IntKind.i64 n5)), (.lf (.int IntKind.i64 i6)), an, an, an, an, an, an, an, an, an, an, an, an, an, an, an, an, an, an, an, an, an, an, an, an, an, an, an, an, an, an, an, an, an, an, an, an], [(.box [(.int IntKind.i64), (.sl 48), (.int IntKind.i64), (.int IntKind.i64), (.sl 25)] [(.int IntKind.i64 h0_0), (.lst 48 h0_1), (.int IntKind.i64 h0_2), (.int IntKind.i64 h0_3), (.lst 25 h0_4)])]⟩
theorem lsize_e (G : Req → R) (m : Nat) (re0_0 : Int) (re0_1 : List (List L)) (re0_2 : Int) (re0_3 : Int) (re0_4 : List (List L)) (levels1 : Int) : runB (cfg [(k_lsize m)]) G (.enter 30 [(.agg [(.int IntKind.i64 (re0_0)), (.lst 48 re0_1), (.int IntKind.i64 (re0_2)), (.int IntKind.i64 (re0_3)), (.lst 25 re0_4)]), (.lf (.int IntKind.i64 (levels1)))] []) =
  (cond (levels1 == 0)
   (some [(.int IntKind.i64 (1000))])
   (cond (ltI 50 (↑(List.length re0_1) : Int))
    (some [(.int IntKind.i64 (1000))])
    (cond (ltI 100 (↑(List.length re0_4) : Int))
     (some [(.int IntKind.i64 (1000))])
     (G (lsize_q5 levels1 1 0 re0_0 re0_1 re0_2 re0_3 re0_4))))) := by kernel_rfl
theorem lsize_p5 (G : Req → R) (m : Nat) (levels1 : Int) (n5 : Int) (i6 : Int) (h0_0 : Int) (h0_1 : List (List L)) (h0_2 : Int) (h0_3 : Int) (h0_4 : List (List L)) : runB (cfg [(k_lsize m)]) G (lsize_q5 levels1 n5 i6 h0_0 h0_1 h0_2 h0_3 h0_4) =
  (cond (ltI i6 (↑(List.length h0_4) : Int))
   (cond (ltI n5 1000)
    (cond (leI 0 i6 && ltI i6 (↑(List.length h0_4) : Int))
     (cond (isXa [L.int IntKind.i64 (cI 0 (atL h0_4 i6)), L.lst 48 (cX 1 (atL h0_4 i6)), L.int IntKind.i64 (cI 2 (atL h0_4 i6)), L.int IntKind.i64 (cI 3 (atL h0_4 i6)), L.lst 25 (cX 4 (atL h0_4 i6))] && (leI 0 (wrapI IntKind.i64 (levels1 - 1)) && (ltI (wrapI IntKind.i64 (levels1 - 1)) (↑m : Int) && leI (wrapI IntKind.i64 (levels1 - 1)) 999)))
      (G (lsize_q5 levels1 (wrapI IntKind.i64 (n5 + lsz (Int.toNat (wrapI IntKind.i64 (levels1 - 1))) (decX [L.int IntKind.i64 (cI 0 (atL h0_4 i6)), L.lst 48 (cX 1 (atL h0_4 i6)), L.int IntKind.i64 (cI 2 (atL h0_4 i6)), L.int IntKind.i64 (cI 3 (atL h0_4 i6)), L.lst 25 (cX 4 (atL h0_4 i6))]))) (wrapI IntKind.i64 (i6 + 1)) h0_0 h0_1 h0_2 h0_3 h0_4))
      none)
     none)
    (some [(.int IntKind.i64 (n5))]))
   (some [(.int IntKind.i64 (n5))])) := by kernel_rfl

/-! codesearch/codesearchlaw08.small -/
theorem small_e (G : Req → R) (re0_0 : Int) (re0_1 : List (List L)) (re0_2 : Int) (re0_3 : Int) (re0_4 : List (List L)) : runB (cfg [(k_lsize 31)]) G (.enter 11 [(.agg [(.int IntKind.i64 (re0_0)), (.lst 48 re0_1), (.int IntKind.i64 (re0_2)), (.int IntKind.i64 (re0_3)), (.lst 25 re0_4)])] []) =
  (cond (isXa [L.int IntKind.i64 re0_0, L.lst 48 re0_1, L.int IntKind.i64 re0_2, L.int IntKind.i64 re0_3, L.lst 25 re0_4] && true)
   (some [(.bool (leI (lsz 30 (decX [L.int IntKind.i64 re0_0, L.lst 48 re0_1, L.int IntKind.i64 re0_2, L.int IntKind.i64 re0_3, L.lst 25 re0_4])) 100))])
   none) := by kernel_rfl

/-! codesearch/regex.size -/
noncomputable def size_q3 (n4 : Int) (levels5 : Int) (x11 : List (List L)) (x12 : Int) (x13 : Int) : Req := .point 32 [] (todoAt Tryd.prog 32 3) ⟨[an, an, an, an, (.lf (.int IntKind.i64 n4)), (.lf (.int IntKind.i64 levels5)), an, an, an, an, an, (.lf (.lst 25 x11)), (.lf (.int IntKind.i64 x12)), (.lf (.int IntKind.i64 x13)), an, an, an, an, an, an, an, an, an, an, an, an, an, an, an, an, an, an], []⟩
theorem size_e (G : Req → R) (m : Nat) (re0_0 : Int) (re0_1 : List (List L)) (re0_2 : Int) (re0_3 : Int) (re0_4 : List (List L)) : runB (cfg [(k_size m)]) G (.enter 32 [(.agg [(.int IntKind.i64 (re0_0)), (.lst 48 re0_1), (.int IntKind.i64 (re0_2)), (.int IntKind.i64 (re0_3)), (.lst 25 re0_4)])] []) =
  (G (size_q3 1 0 re0_4 ((↑(List.length re0_4) : Int)) 0)) := by kernel_rfl
theorem size_p3 (G : Req → R) (m : Nat) (n4 : Int) (levels5 : Int) (x11 : List (List L)) (x12 : Int) (x13 : Int) : runB (cfg [(k_size m)]) G (size_q3 n4 levels5 x11 x12 x13) =
  (cond (ltI x13 x12)
   (cond (leI 0 x13 && ltI x13 (↑(List.length x11) : Int))
    (cond (isX [L.int IntKind.i64 (cI 0 (atL x11 x13)), L.lst 48 (cX 1 (atL x11 x13)), L.int IntKind.i64 (cI 2 (atL x11 x13)), L.int IntKind.i64 (cI 3 (atL x11 x13)), L.lst 25 (cX 4 (atL x11 x13))] m)
     (G (size_q3 (wrapI IntKind.i64 (n4 + (↑(Rx.nodes (decX [L.int IntKind.i64 (cI 0 (atL x11 x13)), L.lst 48 (cX 1 (atL x11 x13)), L.int IntKind.i64 (cI 2 (atL x11 x13)), L.int IntKind.i64 (cI 3 (atL x11 x13)), L.lst 25 (cX 4 (atL x11 x13))])) : Int))) (if (↑(Rx.lev (decX [L.int IntKind.i64 (cI 0 (atL x11 x13)), L.lst 48 (cX 1 (atL x11 x13)), L.int IntKind.i64 (cI 2 (atL x11 x13)), L.int IntKind.i64 (cI 3 (atL x11 x13)), L.lst 25 (cX 4 (atL x11 x13))])) : Int) > levels5 then (↑(Rx.lev (decX [L.int IntKind.i64 (cI 0 (atL x11 x13)), L.lst 48 (cX 1 (atL x11 x13)), L.int IntKind.i64 (cI 2 (atL x11 x13)), L.int IntKind.i64 (cI 3 (atL x11 x13)), L.lst 25 (cX 4 (atL x11 x13))])) : Int) else levels5) x11 x12 (wrapI IntKind.i64 (x13 + 1))))
     none)
    none)
   (some [(.int IntKind.i64 (n4)), (.int IntKind.i64 (wrapI IntKind.i64 (levels5 + 1)))])) := by kernel_rfl

/-! codesearch/codesearchref08.Size -/
noncomputable def rSize_q3 (n3 : Int) (i4 : Int) (h0_0 : Int) (h0_1 : List (List L)) (h0_2 : Int) (h0_3 : Int) (h0_4 : List (List L)) : Req := .point 34 [] (todoAt Tryd.prog 34 3) ⟨[an, (.lf (.ptr 0 0)), an, (.lf (.int IntKind.i64 n3)), (.lf (.int IntKind.i64 i4)), an, an, an, an, an, an, an, an, an, an, an, an, an, an, an, an], [(.box [(.int IntKind.i64), (.sl 48), (.int IntKind.i64), (.int IntKind.i64), (.sl 25)] [(.int IntKind.i64 h0_0), (.lst 48 h0_1), (.int IntKind.i64 h0_2), (.int IntKind.i64 h0_3), (.lst 25 h0_4)])]⟩
theorem rSize_e (G : Req → R) (m : Nat) (re0_0 : Int) (re0_1 : List (List L)) (re0_2 : Int) (re0_3 : Int) (re0_4 : List (List L)) : runB (cfg [(k_rSize m)]) G (.enter 34 [(.agg [(.int IntKind.i64 (re0_0)), (.lst 48 re0_1), (.int IntKind.i64 (re0_2)), (.int IntKind.i64 (re0_3)), (.lst 25 re0_4)])] []) =
  (G (rSize_q3 1 0 re0_0 re0_1 re0_2 re0_3 re0_4)) := by kernel_rfl
theorem rSize_p3 (G : Req → R) (m : Nat) (n3 : Int) (i4 : Int) (h0_0 : Int) (h0_1 : List (List L)) (h0_2 : Int) (h0_3 : Int) (h0_4 : List (List L)) : runB (cfg [(k_rSize m)]) G (rSize_q3 n3 i4 h0_0 h0_1 h0_2 h0_3 h0_4) =
  (cond (ltI i4 (↑(List.length h0_4) : Int))
   (cond (leI 0 i4 && ltI i4 (↑(List.length h0_4) : Int))
    (cond (isX [L.int IntKind.i64 (cI 0 (atL h0_4 i4)), L.lst 48 (cX 1 (atL h0_4 i4)), L.int IntKind.i64 (cI 2 (atL h0_4 i4)), L.int IntKind.i64 (cI 3 (atL h0_4 i4)), L.lst 25 (cX 4 (atL h0_4 i4))] m)
     (G (rSize_q3 (wrapI IntKind.i64 (n3 + (↑(Rx.nodes (decX [L.int IntKind.i64 (cI 0 (atL h0_4 i4)), L.lst 48 (cX 1 (atL h0_4 i4)), L.int IntKind.i64 (cI 2 (atL h0_4 i4)), L.int IntKind.i64 (cI 3 (atL h0_4 i4)), L.lst 25 (cX 4 (atL h0_4 i4))])) : Int))) (wrapI IntKind.i64 (i4 + 1)) h0_0 h0_1 h0_2 h0_3 h0_4))
     none)
    none)
   (some [(.int IntKind.i64 (n3))])) := by kernel_rfl

/-! codesearch/codesearchref08.Depth -/
noncomputable def rDepth_q3 (n3 : Int) (i4 : Int) (h0_0 : Int) (h0_1 : List (List L)) (h0_2 : Int) (h0_3 : Int) (h0_4 : List (List L)) : Req := .point 35 [] (todoAt Tryd.prog 35 3) ⟨[an, (.lf (.ptr 0 0)), an, (.lf (.int IntKind.i64 n3)), (.lf (.int IntKind.i64 i4)), an, an, an, an, an, an, an, an, an, an, an, an, an, an, an, an, an, an, an, an], [(.box [(.int IntKind.i64), (.sl 48), (.int IntKind.i64), (.int IntKind.i64), (.sl 25)] [(.int IntKind.i64 h0_0), (.lst 48 h0_1), (.int IntKind.i64 h0_2), (.int IntKind.i64 h0_3), (.lst 25 h0_4)])]⟩
theorem rDepth_e (G : Req → R) (m : Nat) (re0_0 : Int) (re0_1 : List (List L)) (re0_2 : Int) (re0_3 : Int) (re0_4 : List (List L)) : runB (cfg [(k_rDepth m)]) G (.enter 35 [(.agg [(.int IntKind.i64 (re0_0)), (.lst 48 re0_1), (.int IntKind.i64 (re0_2)), (.int IntKind.i64 (re0_3)), (.lst 25 re0_4)])] []) =
  (G (rDepth_q3 0 0 re0_0 re0_1 re0_2 re0_3 re0_4)) := by kernel_rfl
theorem rDepth_p3 (G : Req → R) (m : Nat) (n3 : Int) (i4 : Int) (h0_0 : Int) (h0_1 : List (List L)) (h0_2 : Int) (h0_3 : Int) (h0_4 : List (List L)) : runB (cfg [(k_rDepth m)]) G (rDepth_q3 n3 i4 h0_0 h0_1 h0_2 h0_3 h0_4) =
  (cond (ltI i4 (↑(List.length h0_4) : Int))
   (cond (leI 0 i4 && ltI i4 (↑(List.length h0_4) : Int))
    (cond (isX [L.int IntKind.i64 (cI 0 (atL h0_4 i4)), L.lst 48 (cX 1 (atL h0_4 i4)), L.int IntKind.i64 (cI 2 (atL h0_4 i4)), L.int IntKind.i64 (cI 3 (atL h0_4 i4)), L.lst 25 (cX 4 (atL h0_4 i4))] m)
     (cond (ltI n3 (↑(Rx.lev (decX [L.int IntKind.i64 (cI 0 (atL h0_4 i4)), L.lst 48 (cX 1 (atL h0_4 i4)), L.int IntKind.i64 (cI 2 (atL h0_4 i4)), L.int IntKind.i64 (cI 3 (atL h0_4 i4)), L.lst 25 (cX 4 (atL h0_4 i4))])) : Int))
      (G (rDepth_q3 ((↑(Rx.lev (decX [L.int IntKind.i64 (cI 0 (atL h0_4 i4)), L.lst 48 (cX 1 (atL h0_4 i4)), L.int IntKind.i64 (cI 2 (atL h0_4 i4)), L.int IntKind.i64 (cI 3 (atL h0_4 i4)), L.lst 25 (cX 4 (atL h0_4 i4))])) : Int)) (wrapI IntKind.i64 (i4 + 1)) h0_0 h0_1 h0_2 h0_3 h0_4))
      (G (rDepth_q3 n3 (wrapI IntKind.i64 (i4 + 1)) h0_0 h0_1 h0_2 h0_3 h0_4)))
     none)
    none)
   (some [(.int IntKind.i64 (wrapI IntKind.i64 (n3 + 1)))])) := by kernel_rfl

/-! codesearch/regex.node -/
noncomputable def node_q3 (set3 : Bool) (repeat4 : Bool) (subs5 : Bool) (h0_0 : Int) (h0_1 : List (List L)) (h0_2 : Int) (h0_3 : Int) (h0_4 : List (List L)) : Req := .point 31 [] (todoAt Tryd.prog 31 3) ⟨[an, (.lf (.ptr 0 0)), an, (.lf (.bool set3)), (.lf (.bool repeat4)), (.lf (.bool subs5)), an, an, an, an, an, an, an, an, an, an, an, an, an, an, an, an, an, an, an, an, an, an, an, an, an, an, an, an, an, an, an, an, an, an, an, an, an, an, an, an, an, an, an, an, an, an, an, an, an, an, an, an, an, an, an, an, an, an, an, an, an, an, an, an, an, an, an, an, an, an, an, an, an, an, an, an, an, an, an, an, an, an, an, an, an, an, an, an, an, an, an, an, an, an, an, an, an, an, an, an, an, an, an, an, an, an, an, an, an, an, an, an, an, an, an, an, an, an, an, an, an, an, an, an, an, an, an, an, an, an, an, an], [(.box [(.int IntKind.i64), (.sl 48), (.int IntKind.i64), (.int IntKind.i64), (.sl 25)] [(.int IntKind.i64 h0_0), (.lst 48 h0_1), (.int IntKind.i64 h0_2), (.int IntKind.i64 h0_3), (.lst 25 h0_4)])]⟩
noncomputable def node_q10 (repeat4 : Bool) (h0_0 : Int) (h0_1 : List (List L)) (h0_2 : Int) (h0_3 : Int) (h0_4 : List (List L)) : Req := .point 31 [] (todoAt Tryd.prog 31 10) ⟨[an, (.lf (.ptr 0 0)), an, an, (.lf (.bool repeat4)), an, an, an, an, an, an, an, an, an, an, an, an, an, an, an, an, an, an, an, an, an, an, an, an, an, an, an, an, an, an, an, an, an, an, an, an, an, an, an, an, an, an, an, an, an, an, an, an, an, an, an, an, an, an, an, an, an, an, an, an, an, an, an, an, an, an, an, an, an, an, an, an, an, an, an, an, an, an, an, an, an, an, an, an, an, an, an, an, an, an, an, an, an, an, an, an, an, an, an, an, an, an, an, an, an, an, an, an, an, an, an, an, an, an, an, an, an, an, an, an, an, an, an, an, an, an, an, an, an, an, an, an, an], [(.box [(.int IntKind.i64), (.sl 48), (.int IntKind.i64), (.int IntKind.i64), (.sl 25)] [(.int IntKind.i64 h0_0), (.lst 48 h0_1), (.int IntKind.i64 h0_2), (.int IntKind.i64 h0_3), (.lst 25 h0_4)])]⟩
noncomputable def node_q11 (repeat4 : Bool) (x80 : List (List L)) (x81 : Int) (x82 : Int) (h0_0 : Int) (h0_1 : List (List L)) (h0_2 : Int) (h0_3 : Int) (h0_4 : List (List L)) : Req := .point 31 [] (todoAt Tryd.prog 31 11) ⟨[an, (.lf (.ptr 0 0)), an, an, (.lf (.bool repeat4)), an, an, an, an, an, an, an, an, an, an, an, an, an, an, an, an, an, an, an, an, an, an, an, an, an, an, an, an, an, an, an, an, an, an, an, an, an, an, an, an, an, an, an, an, an, an, an, an, an, an, an, an, an, an, an, an, an, an, an, an, an, an, an, an, an, an, an, an, an, an, an, an, an, an, an, (.lf (.lst 48 x80)), (.lf (.int IntKind.i64 x81)), (.lf (.int IntKind.i64 x82)), an, an, an, an, an, an, an, an, an, an, an, an, an, an, an, an, an, an, an, an, an, an, an, an, an, an, an, an, an, an, an, an, an, an, an, an, an, an, an, an, an, an, an, an, an, an, an, an, an, an, an, an, an, an, an], [(.box [(.int IntKind.i64), (.sl 48), (.int IntKind.i64), (.int IntKind.i64), (.sl 25)] [(.int IntKind.i64 h0_0), (.lst 48 h0_1), (.int IntKind.i64 h0_2), (.int IntKind.i64 h0_3), (.lst 25 h0_4)])]⟩
noncomputable def node_q16 (repeat4 : Bool) (h0_0 : Int) (h0_1 : List (List L)) (h0_2 : Int) (h0_3 : Int) (h0_4 : List (List L)) : Req := .point 31 [] (todoAt Tryd.prog 31 16) ⟨[an, (.lf (.ptr 0 0)), an, an, (.lf (.bool repeat4)), an, an, an, an, an, an, an, an, an, an, an, an, an, an, an, an, an, an, an, an, an, an, an, an, an, an, an, an, an, an, an, an, an, an, an, an, an, an, an, an, an, an, an, an, an, an, an, an, an, an, an, an, an, an, an, an, an, an, an, an, an, an, an, an, an, an, an, an, an, an, an, an, an, an, an, an, an, an, an, an, an, an, an, an, an, an, an, an, an, an, an, an, an, an, an, an, an, an, an, an, an, an, an, an, an, an, an, an, an, an, an, an, an, an, an, an, an, an, an, an, an, an, an, an, an, an, an, an, an, an, an, an, an], [(.box [(.int IntKind.i64), (.sl 48), (.int IntKind.i64), (.int IntKind.i64), (.sl 25)] [(.int IntKind.i64 h0_0), (.lst 48 h0_1), (.int IntKind.i64 h0_2), (.int IntKind.i64 h0_3), (.lst 25 h0_4)])]⟩
noncomputable def node_q19 (x126 : List (List L)) (x127 : Int) (x128 : Int) : Req := .point 31 [] (todoAt Tryd.prog 31 19) ⟨[an, an, an, an, an, an, an, an, an, an, an, an, an, an, an, an, an, an, an, an, an, an, an, an, an, an, an, an, an, an, an, an, an, an, an, an, an, an, an, an, an, an, an, an, an, an, an, an, an, an, an, an, an, an, an, an, an, an, an, an, an, an, an, an, an, an, an, an, an, an, an, an, an, an, an, an, an, an, an, an, an, an, an, an, an, an, an, an, an, an, an, an, an, an, an, an, an, an, an, an, an, an, an, an, an, an, an, an, an, an, an, an, an, an, an, an, an, an, an, an, an, an, an, an, an, an, (.lf (.lst 25 x126)), (.lf (.int IntKind.i64 x127)), (.lf (.int IntKind.i64 x128)), an, an, an, an, an, an, an, an, an], []⟩
theorem node_e (G : Req → R) (m : Nat) (re0_0 : Int) (re0_1 : List (List L)) (re0_2 : Int) (re0_3 : Int) (re0_4 : List (List L)) : runB (cfg [(k_node m)]) G (.enter 31 [(.agg [(.int IntKind.i64 (re0_0)), (.lst 48 re0_1), (.int IntKind.i64 (re0_2)), (.int IntKind.i64 (re0_3)), (.lst 25 re0_4)])] []) =
  (cond (re0_0 == 4)
   (G (node_q3 (re0_0 == 1) (re0_0 == 4) true re0_0 re0_1 re0_2 re0_3 re0_4))
   (cond (re0_0 == 2)
    (G (node_q3 (re0_0 == 1) (re0_0 == 4) true re0_0 re0_1 re0_2 re0_3 re0_4))
    (G (node_q3 (re0_0 == 1) (re0_0 == 4) (re0_0 == 3) re0_0 re0_1 re0_2 re0_3 re0_4)))) := by kernel_rfl
theorem node_p3 (G : Req → R) (m : Nat) (set3 : Bool) (repeat4 : Bool) (subs5 : Bool) (h0_0 : Int) (h0_1 : List (List L)) (h0_2 : Int) (h0_3 : Int) (h0_4 : List (List L)) : runB (cfg [(k_node m)]) G (node_q3 set3 repeat4 subs5 h0_0 h0_1 h0_2 h0_3 h0_4) =
  (cond (ltI h0_0 1)
   (some [(.int IntKind.i64 (1))])
   (cond (ltI 7 h0_0)
    (cond (ltI 7 h0_0)
     (some [(.int IntKind.i64 (1))])
     (G (node_q10 repeat4 h0_0 h0_1 h0_2 h0_3 h0_4)))
    (cond (set3 == ((↑(List.length h0_1) : Int) == 0))
     (cond (set3 == ((↑(List.length h0_1) : Int) == 0))
      (some [(.int IntKind.i64 (1))])
      (G (node_q10 repeat4 h0_0 h0_1 h0_2 h0_3 h0_4)))
     (cond (repeat4)
      (cond ((↑(List.length h0_4) : Int) != 1)
       (cond ((↑(List.length h0_4) : Int) != 1)
        (some [(.int IntKind.i64 (1))])
        (G (node_q10 repeat4 h0_0 h0_1 h0_2 h0_3 h0_4)))
       (cond (h0_0 == 3)
        (cond (ltI (↑(List.length h0_4) : Int) 2)
         (cond (ltI (↑(List.length h0_4) : Int) 2)
          (some [(.int IntKind.i64 (1))])
          (G (node_q10 repeat4 h0_0 h0_1 h0_2 h0_3 h0_4)))
         (cond (!subs5)
          (cond (ltI 0 (↑(List.length h0_4) : Int))
           (cond (ltI 0 (↑(List.length h0_4) : Int))
            (some [(.int IntKind.i64 (1))])
            (G (node_q10 repeat4 h0_0 h0_1 h0_2 h0_3 h0_4)))
           (cond (!repeat4)
            (cond (h0_2 != 0)
             (some [(.int IntKind.i64 (1))])
             (cond (h0_3 != 0)
              (some [(.int IntKind.i64 (1))])
              (G (node_q10 repeat4 h0_0 h0_1 h0_2 h0_3 h0_4))))
            (G (node_q10 repeat4 h0_0 h0_1 h0_2 h0_3 h0_4))))
          (cond (!repeat4)
           (cond (h0_2 != 0)
            (some [(.int IntKind.i64 (1))])
            (cond (h0_3 != 0)
             (some [(.int IntKind.i64 (1))])
             (G (node_q10 repeat4 h0_0 h0_1 h0_2 h0_3 h0_4))))
           (G (node_q10 repeat4 h0_0 h0_1 h0_2 h0_3 h0_4)))))
        (cond (!subs5)
         (cond (ltI 0 (↑(List.length h0_4) : Int))
          (cond (ltI 0 (↑(List.length h0_4) : Int))
           (some [(.int IntKind.i64 (1))])
           (G (node_q10 repeat4 h0_0 h0_1 h0_2 h0_3 h0_4)))
          (cond (!repeat4)
           (cond (h0_2 != 0)
            (some [(.int IntKind.i64 (1))])
            (cond (h0_3 != 0)
             (some [(.int IntKind.i64 (1))])
             (G (node_q10 repeat4 h0_0 h0_1 h0_2 h0_3 h0_4))))
           (G (node_q10 repeat4 h0_0 h0_1 h0_2 h0_3 h0_4))))
         (cond (!repeat4)
          (cond (h0_2 != 0)
           (some [(.int IntKind.i64 (1))])
           (cond (h0_3 != 0)
            (some [(.int IntKind.i64 (1))])
            (G (node_q10 repeat4 h0_0 h0_1 h0_2 h0_3 h0_4))))
          (G (node_q10 repeat4 h0_0 h0_1 h0_2 h0_3 h0_4))))))
      (cond (h0_0 == 3)
       (cond (ltI (↑(List.length h0_4) : Int) 2)
        (cond (ltI (↑(List.length h0_4) : Int) 2)
         (some [(.int IntKind.i64 (1))])
         (G (node_q10 repeat4 h0_0 h0_1 h0_2 h0_3 h0_4)))
        (cond (!subs5)
         (cond (ltI 0 (↑(List.length h0_4) : Int))
          (cond (ltI 0 (↑(List.length h0_4) : Int))
           (some [(.int IntKind.i64 (1))])
           (G (node_q10 repeat4 h0_0 h0_1 h0_2 h0_3 h0_4)))
          (cond (!repeat4)
           (cond (h0_2 != 0)
            (some [(.int IntKind.i64 (1))])
            (cond (h0_3 != 0)
             (some [(.int IntKind.i64 (1))])
             (G (node_q10 repeat4 h0_0 h0_1 h0_2 h0_3 h0_4))))
           (G (node_q10 repeat4 h0_0 h0_1 h0_2 h0_3 h0_4))))
         (cond (!repeat4)
          (cond (h0_2 != 0)
           (some [(.int IntKind.i64 (1))])
           (cond (h0_3 != 0)
            (some [(.int IntKind.i64 (1))])
            (G (node_q10 repeat4 h0_0 h0_1 h0_2 h0_3 h0_4))))
          (G (node_q10 repeat4 h0_0 h0_1 h0_2 h0_3 h0_4)))))
       (cond (!subs5)
        (cond (ltI 0 (↑(List.length h0_4) : Int))
         (cond (ltI 0 (↑(List.length h0_4) : Int))
          (some [(.int IntKind.i64 (1))])
          (G (node_q10 repeat4 h0_0 h0_1 h0_2 h0_3 h0_4)))
         (cond (!repeat4)
          (cond (h0_2 != 0)
           (some [(.int IntKind.i64 (1))])
           (cond (h0_3 != 0)
            (some [(.int IntKind.i64 (1))])
            (G (node_q10 repeat4 h0_0 h0_1 h0_2 h0_3 h0_4))))
          (G (node_q10 repeat4 h0_0 h0_1 h0_2 h0_3 h0_4))))
        (cond (!repeat4)
         (cond (h0_2 != 0)
          (some [(.int IntKind.i64 (1))])
          (cond (h0_3 != 0)
           (some [(.int IntKind.i64 (1))])
           (G (node_q10 repeat4 h0_0 h0_1 h0_2 h0_3 h0_4))))
         (G (node_q10 repeat4 h0_0 h0_1 h0_2 h0_3 h0_4))))))))) := by kernel_rfl
theorem node_p10 (G : Req → R) (m : Nat) (repeat4 : Bool) (h0_0 : Int) (h0_1 : List (List L)) (h0_2 : Int) (h0_3 : Int) (h0_4 : List (List L)) : runB (cfg [(k_node m)]) G (node_q10 repeat4 h0_0 h0_1 h0_2 h0_3 h0_4) =
  (G (node_q11 repeat4 h0_1 ((↑(List.length h0_1) : Int)) 0 h0_0 h0_1 h0_2 h0_3 h0_4)) := by kernel_rfl
theorem node_p11 (G : Req → R) (m : Nat) (repeat4 : Bool) (x80 : List (List L)) (x81 : Int) (x82 : Int) (h0_0 : Int) (h0_1 : List (List L)) (h0_2 : Int) (h0_3 : Int) (h0_4 : List (List L)) : runB (cfg [(k_node m)]) G (node_q11 repeat4 x80 x81 x82 h0_0 h0_1 h0_2 h0_3 h0_4) =
  (cond (ltI x82 x81)
   (cond (leI 0 x82 && ltI x82 (↑(List.length x80) : Int))
    (cond (ltI (cI 1 (atL x80 x82)) (cI 0 (atL x80 x82)))
     (some [(.int IntKind.i64 (1))])
     (G (node_q11 repeat4 x80 x81 (wrapI IntKind.i64 (x82 + 1)) h0_0 h0_1 h0_2 h0_3 h0_4)))
    none)
   (G (node_q16 repeat4 h0_0 h0_1 h0_2 h0_3 h0_4))) := by kernel_rfl
theorem node_p16 (G : Req → R) (m : Nat) (repeat4 : Bool) (h0_0 : Int) (h0_1 : List (List L)) (h0_2 : Int) (h0_3 : Int) (h0_4 : List (List L)) : runB (cfg [(k_node m)]) G (node_q16 repeat4 h0_0 h0_1 h0_2 h0_3 h0_4) =
  (cond (repeat4)
   (cond (ltI h0_2 0)
    (some [(.int IntKind.i64 (2))])
    (cond (ltI 8 h0_2)
     (some [(.int IntKind.i64 (2))])
     (cond (h0_3 != -1)
      (cond (ltI h0_3 1)
       (some [(.int IntKind.i64 (2))])
       (cond (ltI 8 h0_3)
        (some [(.int IntKind.i64 (2))])
        (cond (ltI h0_3 h0_2)
         (some [(.int IntKind.i64 (2))])
         (G (node_q19 h0_4 ((↑(List.length h0_4) : Int)) 0)))))
      (G (node_q19 h0_4 ((↑(List.length h0_4) : Int)) 0)))))
   (G (node_q19 h0_4 ((↑(List.length h0_4) : Int)) 0))) := by kernel_rfl
theorem node_p19 (G : Req → R) (m : Nat) (x126 : List (List L)) (x127 : Int) (x128 : Int) : runB (cfg [(k_node m)]) G (node_q19 x126 x127 x128) =
  (cond (ltI x128 x127)
   (cond (leI 0 x128 && ltI x128 (↑(List.length x126) : Int))
    (cond (isX [L.int IntKind.i64 (cI 0 (atL x126 x128)), L.lst 48 (cX 1 (atL x126 x128)), L.int IntKind.i64 (cI 2 (atL x126 x128)), L.int IntKind.i64 (cI 3 (atL x126 x128)), L.lst 25 (cX 4 (atL x126 x128))] m)
     (cond (nodeS (decX [L.int IntKind.i64 (cI 0 (atL x126 x128)), L.lst 48 (cX 1 (atL x126 x128)), L.int IntKind.i64 (cI 2 (atL x126 x128)), L.int IntKind.i64 (cI 3 (atL x126 x128)), L.lst 25 (cX 4 (atL x126 x128))]) != 0)
      (some [(.int IntKind.i64 (nodeS (decX [L.int IntKind.i64 (cI 0 (atL x126 x128)), L.lst 48 (cX 1 (atL x126 x128)), L.int IntKind.i64 (cI 2 (atL x126 x128)), L.int IntKind.i64 (cI 3 (atL x126 x128)), L.lst 25 (cX 4 (atL x126 x128))])))])
      (G (node_q19 x126 x127 (wrapI IntKind.i64 (x128 + 1)))))
     none)
    none)
   (some [(.int IntKind.i64 (0))])) := by kernel_rfl

/-! codesearch/codesearchref08.fields -/
noncomputable def fields_q6 (i3 : Int) (h0_0 : Int) (h0_1 : List (List L)) (h0_2 : Int) (h0_3 : Int) (h0_4 : List (List L)) : Req := .point 49 [] (todoAt Tryd.prog 49 6) ⟨[an, (.lf (.ptr 0 0)), an, (.lf (.int IntKind.i64 i3)), an, an, an, an, an, an, an, an, an, an, an, an, an, an, an, an, an, an, an, an, an, an, an, an, an, an, an, an, an, an, an, an, an, an, an, an, an, an, an, an, an, an, an, an, an, an, an, an, an, an, an, an, an, an, an, an, an, an, an, an, an, an, an, an, an, an, an, an, an, an, an, an], [(.box [(.int IntKind.i64), (.sl 48), (.int IntKind.i64), (.int IntKind.i64), (.sl 25)] [(.int IntKind.i64 h0_0), (.lst 48 h0_1), (.int IntKind.i64 h0_2), (.int IntKind.i64 h0_3), (.lst 25 h0_4)])]⟩
theorem fields_e (G : Req → R) (re0_0 : Int) (re0_1 : List (List L)) (re0_2 : Int) (re0_3 : Int) (re0_4 : List (List L)) : runB (cfg []) G (.enter 49 [(.agg [(.int IntKind.i64 (re0_0)), (.lst 48 re0_1), (.int IntKind.i64 (re0_2)), (.int IntKind.i64 (re0_3)), (.lst 25 re0_4)])] []) =
  (cond (ltI re0_0 1)
   (some [(.bool (false))])
   (cond (ltI 7 re0_0)
    (some [(.bool (false))])
    (cond (!(re0_0 == 1) == ltI 0 (↑(List.length re0_1) : Int))
     (some [(.bool (false))])
     (G (fields_q6 0 re0_0 re0_1 re0_2 re0_3 re0_4))))) := by kernel_rfl
theorem fields_p6 (G : Req → R) (i3 : Int) (h0_0 : Int) (h0_1 : List (List L)) (h0_2 : Int) (h0_3 : Int) (h0_4 : List (List L)) : runB (cfg []) G (fields_q6 i3 h0_0 h0_1 h0_2 h0_3 h0_4) =
  (cond (ltI i3 (↑(List.length h0_1) : Int))
   (cond (leI 0 i3 && ltI i3 (↑(List.length h0_1) : Int))
    (cond (leI 0 i3 && ltI i3 (↑(List.length h0_1) : Int))
     (cond (ltI (cI 1 (atL h0_1 i3)) (cI 0 (atL h0_1 i3)))
      (some [(.bool (false))])
      (G (fields_q6 (wrapI IntKind.i64 (i3 + 1)) h0_0 h0_1 h0_2 h0_3 h0_4)))
     none)
    none)
   (cond (h0_0 != 4)
    (cond (h0_2 != 0)
     (some [(.bool (false))])
     (cond (h0_3 != 0)
      (some [(.bool (false))])
      (cond (h0_0 == 4)
       (some [(.bool ((↑(List.length h0_4) : Int) == 1))])
       (cond (h0_0 == 3)
        (some [(.bool (leI 2 (↑(List.length h0_4) : Int)))])
        (cond (h0_0 == 2)
         (some [(.bool (true))])
         (some [(.bool ((↑(List.length h0_4) : Int) == 0))]))))))
    (cond (h0_0 == 4)
     (some [(.bool ((↑(List.length h0_4) : Int) == 1))])
     (cond (h0_0 == 3)
      (some [(.bool (leI 2 (↑(List.length h0_4) : Int)))])
      (cond (h0_0 == 2)
       (some [(.bool (true))])
       (some [(.bool ((↑(List.length h0_4) : Int) == 0))])))))) := by kernel_rfl

/-! codesearch/codesearchref08.node -/
noncomputable def rnode_q6 (i3 : Int) (h0_0 : Int) (h0_1 : List (List L)) (h0_2 : Int) (h0_3 : Int) (h0_4 : List (List L)) : Req := .point 33 [] (todoAt Tryd.prog 33 6) ⟨[an, (.lf (.ptr 0 0)), an, (.lf (.int IntKind.i64 i3)), an, an, an, an, an, an, an, an, an, an, an, an, an, an, an, an, an, an, an, an, an, an, an, an, an, an, an, an, an, an, an, an, an, an, an, an, an, an, an, an, an, an, an, an, an, an, an, an, an, an, an, an, an, an, an], [(.box [(.int IntKind.i64), (.sl 48), (.int IntKind.i64), (.int IntKind.i64), (.sl 25)] [(.int IntKind.i64 h0_0), (.lst 48 h0_1), (.int IntKind.i64 h0_2), (.int IntKind.i64 h0_3), (.lst 25 h0_4)])]⟩
theorem rnode_e (G : Req → R) (m : Nat) (re0_0 : Int) (re0_1 : List (List L)) (re0_2 : Int) (re0_3 : Int) (re0_4 : List (List L)) : runB (cfg [k_fields, (k_rnode m)]) G (.enter 33 [(.agg [(.int IntKind.i64 (re0_0)), (.lst 48 re0_1), (.int IntKind.i64 (re0_2)), (.int IntKind.i64 (re0_3)), (.lst 25 re0_4)])] []) =
  (cond (isX [L.int IntKind.i64 re0_0, L.lst 48 re0_1, L.int IntKind.i64 re0_2, L.int IntKind.i64 re0_3, L.lst 25 re0_4] 1000000000000)
   (cond (!decide (fieldsP (decX [L.int IntKind.i64 re0_0, L.lst 48 re0_1, L.int IntKind.i64 re0_2, L.int IntKind.i64 re0_3, L.lst 25 re0_4])))
    (some [(.int IntKind.i64 (1))])
    (cond (re0_0 == 4)
     (cond (ltI re0_2 0)
      (some [(.int IntKind.i64 (2))])
      (cond (ltI 8 re0_2)
       (some [(.int IntKind.i64 (2))])
       (cond (re0_3 != -1)
        (cond (ltI re0_3 1)
         (some [(.int IntKind.i64 (2))])
         (cond (ltI 8 re0_3)
          (some [(.int IntKind.i64 (2))])
          (cond (ltI re0_3 re0_2)
           (some [(.int IntKind.i64 (2))])
           (G (rnode_q6 0 re0_0 re0_1 re0_2 re0_3 re0_4)))))
        (G (rnode_q6 0 re0_0 re0_1 re0_2 re0_3 re0_4)))))
     (G (rnode_q6 0 re0_0 re0_1 re0_2 re0_3 re0_4))))
   none) := by kernel_rfl
theorem rnode_p6 (G : Req → R) (m : Nat) (i3 : Int) (h0_0 : Int) (h0_1 : List (List L)) (h0_2 : Int) (h0_3 : Int) (h0_4 : List (List L)) : runB (cfg [k_fields, (k_rnode m)]) G (rnode_q6 i3 h0_0 h0_1 h0_2 h0_3 h0_4) =
  (cond (ltI i3 (↑(List.length h0_4) : Int))
   (cond (leI 0 i3 && ltI i3 (↑(List.length h0_4) : Int))
    (cond (isX [L.int IntKind.i64 (cI 0 (atL h0_4 i3)), L.lst 48 (cX 1 (atL h0_4 i3)), L.int IntKind.i64 (cI 2 (atL h0_4 i3)), L.int IntKind.i64 (cI 3 (atL h0_4 i3)), L.lst 25 (cX 4 (atL h0_4 i3))] m)
     (cond (nodeS (decX [L.int IntKind.i64 (cI 0 (atL h0_4 i3)), L.lst 48 (cX 1 (atL h0_4 i3)), L.int IntKind.i64 (cI 2 (atL h0_4 i3)), L.int IntKind.i64 (cI 3 (atL h0_4 i3)), L.lst 25 (cX 4 (atL h0_4 i3))]) != 0)
      (some [(.int IntKind.i64 (nodeS (decX [L.int IntKind.i64 (cI 0 (atL h0_4 i3)), L.lst 48 (cX 1 (atL h0_4 i3)), L.int IntKind.i64 (cI 2 (atL h0_4 i3)), L.int IntKind.i64 (cI 3 (atL h0_4 i3)), L.lst 25 (cX 4 (atL h0_4 i3))])))])
      (G (rnode_q6 (wrapI IntKind.i64 (i3 + 1)) h0_0 h0_1 h0_2 h0_3 h0_4)))
     none)
    none)
   (some [(.int IntKind.i64 (0))])) := by kernel_rfl

/-! codesearch/regex.Right -/
theorem Right_e (G : Req → R) (re0_0 : Int) (re0_1 : List (List L)) (re0_2 : Int) (re0_3 : Int) (re0_4 : List (List L)) : runB (cfg [(k_node 1000000000000), (k_size 1000000000000)]) G (.enter 12 [(.agg [(.int IntKind.i64 (re0_0)), (.lst 48 re0_1), (.int IntKind.i64 (re0_2)), (.int IntKind.i64 (re0_3)), (.lst 25 re0_4)])] []) =
  (cond (isX [L.int IntKind.i64 re0_0, L.lst 48 re0_1, L.int IntKind.i64 re0_2, L.int IntKind.i64 re0_3, L.lst 25 re0_4] 1000000000000)
   (cond (nodeS (decX [L.int IntKind.i64 re0_0, L.lst 48 re0_1, L.int IntKind.i64 re0_2, L.int IntKind.i64 re0_3, L.lst 25 re0_4]) != 0)
    (some [(.int IntKind.i64 (nodeS (decX [L.int IntKind.i64 re0_0, L.lst 48 re0_1, L.int IntKind.i64 re0_2, L.int IntKind.i64 re0_3, L.lst 25 re0_4])))])
    (cond (isX [L.int IntKind.i64 re0_0, L.lst 48 re0_1, L.int IntKind.i64 re0_2, L.int IntKind.i64 re0_3, L.lst 25 re0_4] 1000000000000)
     (cond (ltI 40 (↑(Rx.nodes (decX [L.int IntKind.i64 re0_0, L.lst 48 re0_1, L.int IntKind.i64 re0_2, L.int IntKind.i64 re0_3, L.lst 25 re0_4])) : Int))
      (some [(.int IntKind.i64 (4))])
      (cond (ltI 12 (↑(Rx.lev (decX [L.int IntKind.i64 re0_0, L.lst 48 re0_1, L.int IntKind.i64 re0_2, L.int IntKind.i64 re0_3, L.lst 25 re0_4])) : Int))
       (some [(.int IntKind.i64 (4))])
       (some [(.int IntKind.i64 (0))])))
     none))
   none) := by kernel_rfl

/-! codesearch/codesearchref08.Right -/
theorem rRight_e (G : Req → R) (re0_0 : Int) (re0_1 : List (List L)) (re0_2 : Int) (re0_3 : Int) (re0_4 : List (List L)) : runB (cfg [(k_rnode 1000000000000), (k_rSize 1000000000000), (k_rDepth 1000000000000)]) G (.enter 13 [(.agg [(.int IntKind.i64 (re0_0)), (.lst 48 re0_1), (.int IntKind.i64 (re0_2)), (.int IntKind.i64 (re0_3)), (.lst 25 re0_4)])] []) =
  (cond (isX [L.int IntKind.i64 re0_0, L.lst 48 re0_1, L.int IntKind.i64 re0_2, L.int IntKind.i64 re0_3, L.lst 25 re0_4] 1000000000000)
   (cond (nodeS (decX [L.int IntKind.i64 re0_0, L.lst 48 re0_1, L.int IntKind.i64 re0_2, L.int IntKind.i64 re0_3, L.lst 25 re0_4]) != 0)
    (some [(.int IntKind.i64 (nodeS (decX [L.int IntKind.i64 re0_0, L.lst 48 re0_1, L.int IntKind.i64 re0_2, L.int IntKind.i64 re0_3, L.lst 25 re0_4])))])
    (cond (isX [L.int IntKind.i64 re0_0, L.lst 48 re0_1, L.int IntKind.i64 re0_2, L.int IntKind.i64 re0_3, L.lst 25 re0_4] 1000000000000)
     (cond (ltI 40 (↑(Rx.nodes (decX [L.int IntKind.i64 re0_0, L.lst 48 re0_1, L.int IntKind.i64 re0_2, L.int IntKind.i64 re0_3, L.lst 25 re0_4])) : Int))
      (some [(.int IntKind.i64 (4))])
      (cond (isX [L.int IntKind.i64 re0_0, L.lst 48 re0_1, L.int IntKind.i64 re0_2, L.int IntKind.i64 re0_3, L.lst 25 re0_4] 1000000000000)
       (cond (ltI 12 (↑(Rx.lev (decX [L.int IntKind.i64 re0_0, L.lst 48 re0_1, L.int IntKind.i64 re0_2, L.int IntKind.i64 re0_3, L.lst 25 re0_4])) : Int))
        (some [(.int IntKind.i64 (4))])
        (some [(.int IntKind.i64 (0))]))
       none))
     none))
   none) := by kernel_rfl

end Go.Ab
namespace Go.Ab
open Go.Proofs

theorem RunsF.cond {C : Cfg} {c : Bool} {F1 F2 : (Req → R) → R} {r : List L} (h1 : c = true → RunsF C F1 r) (h2 : c = false → RunsF C F2 r) : RunsF C (fun G => cond c (F1 G) (F2 G)) r := by
  cases c
  · exact h2 rfl
  · exact h1 rfl
theorem ltI_t {a b : Int} (h : ltI a b = true) : a < b := by simpa using h
theorem ltI_f {a b : Int} (h : ltI a b = false) : b ≤ a := by simpa using h
theorem leI_t {a b : Int} (h : leI a b = true) : a ≤ b := by simpa using h
theorem leI_f {a b : Int} (h : leI a b = false) : b < a := by simpa using h
theorem dec5 (x : Rx) : decX [L.int .i64 x.kind, .lst 48 (encRs x.set), .int .i64 x.mn, .int .i64 x.mx, .lst 25 (x.subs.map encX)] = x := by rw [enc5, decX_enc]
theorem is5 {x : Rx} {n : Nat} (h : x.ok) (hl : x.lev ≤ n) : isX [L.int .i64 x.kind, .lst 48 (encRs x.set), .int .i64 x.mn, .int .i64 x.mx, .lst 25 (x.subs.map encX)] n = true := by rw [enc5]; exact isX_enc h hl
theorem cX1_of {xs : List (Nat × Con)} {n f : Nat} {g : Rx → List L} (hx : ∀ p ∈ xs, Holds p) (h : ∀ x : Rx, x.ok → x.lev ≤ n → Runs (cfg xs) (.enter f [.agg [.int .i64 x.kind, .lst 48 (encRs x.set), .int .i64 x.mn, .int .i64 x.mx, .lst 25 (x.subs.map encX)]] []) (g x)) : Holds (f, cX1 n g) :=
  con_run hx fun aa hp r h0 => by
    unfold cX1 at h0
    split at h0
    case h_2 => cases h0
    obtain ⟨g1, rfl⟩ := xo h0
    obtain ⟨x, rfl, rfl, rfl, rfl, rfl, ho, hl⟩ := isX5 g1
    rw [dec5]
    exact h x ho hl
theorem mem_getD {l : List Rx} {i : Nat} (h : i < l.length) : l.getD i default ∈ l := by simp [List.getD_eq_getElem?_getD, h]
theorem subs_in {x : Rx} {n : Nat} (ho : x.ok) (hl : x.lev ≤ n + 1) : ∀ y ∈ x.subs, y.ok ∧ y.lev ≤ n := fun y hy => ⟨ok_sub ho hy, by have := lev_sub hy; omega⟩

/-! ### the law's size -/
theorem lszL_b {f : Rx → Int} {B : Int} (hf : ∀ y, 0 ≤ f y ∧ f y ≤ B) : ∀ (xs : List Rx) (a : Int), 0 ≤ a → a ≤ 1000 + B → 0 ≤ lszL f a xs ∧ lszL f a xs ≤ 1000 + B
  | [], a, h1, h2 => ⟨h1, h2⟩
  | x :: xs, a, h1, h2 => by
    unfold lszL
    have := hf x
    cases h : ltI a 1000 with
    | true =>
      have h' : a < 1000 := by simpa using h
      exact lszL_b hf xs _ (by omega) (by omega)
    | false => exact ⟨h1, h2⟩
theorem lsz_b : ∀ (n : Nat) (x : Rx), 0 ≤ lsz n x ∧ lsz n x ≤ 1000 + 1000 * n
  | 0, x => by rw [lsz]; omega
  | n + 1, x => by
    rw [lsz]
    cases (ltI 50 (x.set.length : Nat) || ltI 100 (x.subs.length : Nat)) with
    | true => simp only [cond_true]; omega
    | false =>
      have := lszL_b (lsz_b n) x.subs 1 (by omega) (by omega)
      simp only [cond_false]
      omega
theorem lsize_loop {m n : Nat} (hn : n < m) (hn' : n ≤ 999) (a0 : Int) (a1 : List (List L)) (a2 a3 : Int) (l : List Rx) (hl : l.length ≤ 100) : ∀ (k i : Nat) (a : Int), i + k = l.length → 0 ≤ a → a ≤ 2000 + 1000 * n →
    Runs (cfg [k_lsize m]) (lsize_q5 ((n : Int) + 1) a (i : Nat) a0 a1 a2 a3 (l.map encX)) [.int .i64 (lszL (lsz n) a (l.drop i))]
  | 0, i, a, h, h1, h2 => by
    refine Runs.by (lsize_p5 · _ _ _ _ _ _ _ _ _) ?_
    simp (disch := omega) only [List.length_map, ev_lt_f, cond_false]
    rw [drop_end (by omega)]
    exact .ret
  | k + 1, i, a, h, h1, h2 => by
    refine Runs.by (lsize_p5 · _ _ _ _ _ _ _ _ _) ?_
    have hi : i < l.length := by omega
    simp (disch := omega) only [List.length_map, ev_lt_t, ev_le_t, cond_true, Bool.and_self, xs_at, el_enc, w64, Int.add_sub_cancel]
    rw [isXa_enc, decX_enc, drop_at default hi, lszL]
    cases he : ltI a 1000 with
    | false => exact .ret
    | true =>
      have he' : a < 1000 := by simpa using he
      have hb := lsz_b n (l.getD i default)
      simp only [Bool.and_self, cond_true, Int.toNat_natCast]
      rw [w64 (by omega) (by omega)]
      exact .go (lsize_loop hn hn' a0 a1 a2 a3 l hl k (i + 1) _ (by omega) (by omega) (by omega))
theorem lsize_holds : ∀ k, Holds (k_lsize k)
  | 0 => con_run (xs := []) hold0 fun aa hp r h => by
    split at h
    case h_2 => cases h
    rename_i a0 a1 a2 a3 a4 n
    obtain ⟨g, rfl⟩ := xo h
    simp only [Bool.and_eq_true] at g
    obtain ⟨_, g1, g2, g3⟩ := g
    simp at g1 g2
    omega
  | m + 1 => con_run (xs := [k_lsize m]) (hold1 (lsize_holds m) hold0) fun aa hp r h => by
    split at h
    case h_2 => cases h
    rename_i a0 a1 a2 a3 a4 n
    obtain ⟨g, rfl⟩ := xo h
    simp only [Bool.and_eq_true] at g
    obtain ⟨g0, g1, g2, g3⟩ := g
    obtain ⟨x, e⟩ := isXa_of g0
    rw [encX_eq] at e
    simp only [List.cons.injEq, L.int.injEq, L.lst.injEq, true_and, and_true] at e
    obtain ⟨rfl, rfl, rfl, rfl, rfl⟩ := e
    rw [dec5]
    have h1 : 0 ≤ n := by simpa using g1
    have h2 : n < m + 1 := by simpa using g2
    have h3 : n ≤ 999 := by simpa using g3
    obtain ⟨j, rfl⟩ : ∃ j : Nat, n = j := ⟨n.toNat, by omega⟩
    refine Runs.by (lsize_e · _ _ _ _ _ _ _) ?_
    rw [Int.toNat_natCast]
    cases j with
    | zero => exact .ret
    | succ j =>
      rw [ev_eq_f (by omega), lsz]
      simp only [cond_false, encRs_len, List.length_map]
      cases h4 : ltI 50 (x.set.length : Nat) with
      | true => exact .ret
      | false =>
        cases h5 : ltI 100 (x.subs.length : Nat) with
        | true => exact .ret
        | false =>
          have h5' : x.subs.length ≤ 100 := by simp at h5; omega
          simp only [Bool.or_self, cond_false]
          exact .go (by simpa using lsize_loop (m := m) (n := j) (by omega) (by omega) x.kind (encRs x.set) x.mn x.mx x.subs h5' x.subs.length 0 1 (by omega) (by omega) (by omega))
theorem small_holds : Holds k_small := con_run (xs := [k_lsize 31]) (hold1 (lsize_holds 31) hold0) fun aa hp r h => by
  split at h
  case h_2 => cases h
  obtain ⟨g, rfl⟩ := xo h
  refine Runs.by (small_e · _ _ _ _ _) ?_
  rw [g]
  exact .ret

/-! ### nodes and levels -/
theorem nodesL_drop {l : List Rx} {i : Nat} (h : i < l.length) : nodesL (l.drop i) = (l.getD i default).nodes + nodesL (l.drop (i + 1)) := by rw [drop_at default h, nodesL]
theorem levL_drop {l : List Rx} {i : Nat} (h : i < l.length) : levL (l.drop i) = max (l.getD i default).lev (levL (l.drop (i + 1))) := by rw [drop_at default h, levL]
theorem lev_le_nodes : ∀ (n : Nat) (x : Rx), x.lev ≤ n → x.lev ≤ x.nodes ∧ ∀ xs : List Rx, levL xs ≤ n → levL xs ≤ nodesL xs
  | 0, x, h => by rw [lev_eq] at h; omega
  | n + 1, x, h => by
    have hL : ∀ xs : List Rx, (∀ y ∈ xs, y.lev ≤ y.nodes) → levL xs ≤ nodesL xs := fun xs => by
      induction xs with
      | nil => intro _; exact Nat.le_refl _
      | cons y ys ih =>
        intro h
        rw [levL, nodesL]
        have h1 := h y (List.mem_cons_self ..)
        have h2 := ih fun z hz => h z (List.mem_cons_of_mem _ hz)
        omega
    have key : ∀ (n : Nat) (y : Rx), y.lev ≤ n → y.lev ≤ y.nodes := fun n => by
      induction n with
      | zero => intro y h; rw [lev_eq] at h; omega
      | succ n ih =>
        intro y h
        rw [lev_eq, nodes_eq]
        have := hL y.subs fun z hz => ih z (by have := lev_sub hz; omega)
        omega
    exact ⟨key _ x (Nat.le_refl _), fun xs hxs => hL xs fun y hy => key _ y (Nat.le_refl _)⟩
theorem lev_nodes (x : Rx) : x.lev ≤ x.nodes := (lev_le_nodes _ x (Nat.le_refl _)).1
theorem ok_lev {x : Rx} (h : x.ok) : x.lev ≤ 1000000000000 := Nat.le_trans (lev_nodes x) h.2
theorem nodesL_ok {x : Rx} (h : x.ok) : nodesL x.subs ≤ 1000000000000 := by have := h.2; rw [nodes_eq] at this; omega
theorem size_loop {m : Nat} (l : List Rx) (hN : nodesL l ≤ 1000000000000) (h1 : ∀ x ∈ l, x.ok ∧ x.lev ≤ m) : ∀ (k i n v : Nat), i + k = l.length → n + nodesL (l.drop i) ≤ 1000000000001 → v ≤ 1000000000000 →
    Runs (cfg [k_size m]) (size_q3 (n : Nat) (v : Nat) (l.map encX) (l.length : Nat) (i : Nat)) [.int .i64 ((n + nodesL (l.drop i) : Nat)), .int .i64 ((max v (levL (l.drop i)) + 1 : Nat))]
  | 0, i, n, v, h, hn, hv => by
    refine Runs.by (size_p3 · _ _ _ _ _ _) ?_
    simp (disch := omega) only [List.length_map, ev_lt_f, cond_false, w64]
    rw [drop_end (by omega)]
    exact .ret' (by simp [nodesL, levL])
  | k + 1, i, n, v, h, hn, hv => by
    refine Runs.by (size_p3 · _ _ _ _ _ _) ?_
    have hi : i < l.length := by omega
    have m1 := h1 _ (mem_getD hi)
    have l1 := ok_lev m1.1
    have l2 := nodesL_len l
    rw [nodesL_drop hi] at hn
    simp (disch := omega) only [List.length_map, ev_lt_t, ev_le_t, cond_true, Bool.and_self, xs_at, el_enc, w64, isX_enc m1.1 m1.2, decX_enc]
    have ih := size_loop l hN h1 k (i + 1) (n + (l.getD i default).nodes) (max v (l.getD i default).lev) (by omega) (by omega) (by omega)
    rw [nodesL_drop hi, levL_drop hi]
    have e1 : (if ((l.getD i default).lev : Int) > (v : Int) then ((l.getD i default).lev : Int) else (v : Int)) = ((max v (l.getD i default).lev : Nat) : Int) := by
      split <;> omega
    rw [e1]
    rw [show n + (l.getD i default).nodes + nodesL (l.drop (i + 1)) = n + ((l.getD i default).nodes + nodesL (l.drop (i + 1))) from by omega,
      show max (max v (l.getD i default).lev) (levL (l.drop (i + 1))) = max v (max (l.getD i default).lev (levL (l.drop (i + 1)))) from by omega] at ih
    exact .go (by simpa using ih)
theorem size_holds : ∀ n, Holds (k_size n)
  | 0 => cX1_of (xs := []) hold0 fun x ho hl => (no_lev hl).elim
  | n + 1 => cX1_of (xs := [k_size n]) (hold1 (size_holds n) hold0) fun x ho hl => by
    refine Runs.by (size_e · _ _ _ _ _ _) ?_
    have := size_loop (m := n) x.subs (nodesL_ok ho) (subs_in ho hl) x.subs.length 0 1 0 (by omega) (by have := nodesL_ok ho; simp; omega) (by omega)
    rw [nodes_eq, lev_eq, List.length_map]
    exact .go (by simpa using this)
theorem rSize_loop {m : Nat} (a0 : Int) (a1 : List (List L)) (a2 a3 : Int) (l : List Rx) (hl : l.length ≤ 1000000000000) (h1 : ∀ x ∈ l, x.ok ∧ x.lev ≤ m) : ∀ (k i n : Nat), i + k = l.length → n + nodesL (l.drop i) ≤ 1000000000001 →
    Runs (cfg [k_rSize m]) (rSize_q3 (n : Nat) (i : Nat) a0 a1 a2 a3 (l.map encX)) [.int .i64 ((n + nodesL (l.drop i) : Nat))]
  | 0, i, n, h, hn => by
    refine Runs.by (rSize_p3 · _ _ _ _ _ _ _ _) ?_
    simp (disch := omega) only [List.length_map, ev_lt_f, cond_false]
    rw [drop_end (by omega)]
    exact .ret' (by simp [nodesL])
  | k + 1, i, n, h, hn => by
    refine Runs.by (rSize_p3 · _ _ _ _ _ _ _ _) ?_
    have hi : i < l.length := by omega
    have m1 := h1 _ (mem_getD hi)
    rw [nodesL_drop hi] at hn
    simp (disch := omega) only [List.length_map, ev_lt_t, ev_le_t, cond_true, Bool.and_self, xs_at, el_enc, w64, isX_enc m1.1 m1.2, decX_enc]
    have ih := rSize_loop a0 a1 a2 a3 l hl h1 k (i + 1) (n + (l.getD i default).nodes) (by omega) (by omega)
    rw [nodesL_drop hi]
    rw [show n + (l.getD i default).nodes + nodesL (l.drop (i + 1)) = n + ((l.getD i default).nodes + nodesL (l.drop (i + 1))) from by omega] at ih
    exact .go (by simpa using ih)
theorem rSize_holds : ∀ n, Holds (k_rSize n)
  | 0 => cX1_of (xs := []) hold0 fun x ho hl => (no_lev hl).elim
  | n + 1 => cX1_of (xs := [k_rSize n]) (hold1 (rSize_holds n) hold0) fun x ho hl => by
    refine Runs.by (rSize_e · _ _ _ _ _ _) ?_
    have := rSize_loop (m := n) x.kind (encRs x.set) x.mn x.mx x.subs (ok_subs ho) (subs_in ho hl) x.subs.length 0 1 (by omega) (by have := nodesL_ok ho; simp; omega)
    rw [nodes_eq]
    exact .go (by simpa using this)
theorem rDepth_loop {m : Nat} (a0 : Int) (a1 : List (List L)) (a2 a3 : Int) (l : List Rx) (hl : l.length ≤ 1000000000000) (h1 : ∀ x ∈ l, x.ok ∧ x.lev ≤ m) : ∀ (k i v : Nat), i + k = l.length → v ≤ 1000000000000 →
    Runs (cfg [k_rDepth m]) (rDepth_q3 (v : Nat) (i : Nat) a0 a1 a2 a3 (l.map encX)) [.int .i64 ((max v (levL (l.drop i)) + 1 : Nat))]
  | 0, i, v, h, hn => by
    refine Runs.by (rDepth_p3 · _ _ _ _ _ _ _ _) ?_
    simp (disch := omega) only [List.length_map, ev_lt_f, cond_false, w64]
    rw [drop_end (by omega)]
    exact .ret' (by simp [levL])
  | k + 1, i, v, h, hv => by
    refine Runs.by (rDepth_p3 · _ _ _ _ _ _ _ _) ?_
    have hi : i < l.length := by omega
    have m1 := h1 _ (mem_getD hi)
    have l1 := ok_lev m1.1
    simp (disch := omega) only [List.length_map, ev_lt_t, ev_le_t, cond_true, Bool.and_self, xs_at, el_enc, w64, isX_enc m1.1 m1.2, decX_enc]
    rw [levL_drop hi]
    cases he : ltI (v : Int) ((l.getD i default).lev : Int) with
    | true =>
      have he' : v < (l.getD i default).lev := by have := ltI_t he; omega
      have ih := rDepth_loop a0 a1 a2 a3 l hl h1 k (i + 1) (l.getD i default).lev (by omega) (by omega)
      rw [show max v (max (l.getD i default).lev (levL (l.drop (i + 1)))) = max (l.getD i default).lev (levL (l.drop (i + 1))) from by omega]
      exact .go ih
    | false =>
      have he' : (l.getD i default).lev ≤ v := by have := ltI_f he; omega
      have ih := rDepth_loop a0 a1 a2 a3 l hl h1 k (i + 1) v (by omega) (by omega)
      rw [show max v (max (l.getD i default).lev (levL (l.drop (i + 1)))) = max v (levL (l.drop (i + 1))) from by omega]
      exact .go ih
theorem rDepth_holds : ∀ n, Holds (k_rDepth n)
  | 0 => cX1_of (xs := []) hold0 fun x ho hl => (no_lev hl).elim
  | n + 1 => cX1_of (xs := [k_rDepth n]) (hold1 (rDepth_holds n) hold0) fun x ho hl => by
    refine Runs.by (rDepth_e · _ _ _ _ _ _) ?_
    have := rDepth_loop (m := n) x.kind (encRs x.set) x.mn x.mx x.subs (ok_subs ho) (subs_in ho hl) x.subs.length 0 0 (by omega) (by omega)
    rw [lev_eq]
    exact .go (by simpa using this)
end Go.Ab
namespace Go.Ab
open Go.Proofs

/-- The fields agree, but for the order of the ranges' ends. -/
def fieldsQ (x : Rx) : Prop := 1 ≤ x.kind ∧ x.kind ≤ 7 ∧ (x.kind = 1 ↔ 0 < x.set.length) ∧ (x.kind = 4 → x.subs.length = 1) ∧ (x.kind = 3 → 2 ≤ x.subs.length) ∧
  (x.kind ≠ 2 ∧ x.kind ≠ 3 ∧ x.kind ≠ 4 → x.subs.length = 0) ∧ (x.kind ≠ 4 → x.mn = 0 ∧ x.mx = 0)
def ordP (l : List (UInt8 × UInt8)) : Prop := ∀ r ∈ l, r.1.toNat ≤ r.2.toNat
theorem fieldsP_iff (x : Rx) : fieldsP x ↔ fieldsQ x ∧ ordP x.set := by
  unfold fieldsP fieldsQ ordP
  constructor
  · rintro ⟨h1, h2, h3, h4, h5⟩; exact ⟨⟨h1, h2, h3, h5⟩, h4⟩
  · rintro ⟨⟨h1, h2, h3, h5⟩, h4⟩; exact ⟨h1, h2, h3, h4, h5⟩
theorem beq_true_int {a b : Int} : ((a == b) = true) = (a = b) := by simp
theorem beq_false_int {a b : Int} : ((a == b) = false) = (a ≠ b) := by simp
theorem bne_true_int {a b : Int} : ((a != b) = true) = (a ≠ b) := by simp
theorem bne_false_int {a b : Int} : ((a != b) = false) = (a = b) := by simp
theorem ltI_true' {a b : Int} : (ltI a b = true) = (a < b) := by simp
theorem ltI_false' {a b : Int} : (ltI a b = false) = (b ≤ a) := by simp
theorem leI_true' {a b : Int} : (leI a b = true) = (a ≤ b) := by simp
theorem leI_false' {a b : Int} : (leI a b = false) = (b < a) := by simp
theorem beq_bool {a b : Bool} : ((a == b) = true) = (a = true ↔ b = true) := by cases a <;> cases b <;> simp
theorem beq_bool' {a b : Bool} : ((a == b) = false) = ¬ (a = true ↔ b = true) := by cases a <;> cases b <;> simp
theorem not_true' {a : Bool} : ((!a) = true) = ¬ (a = true) := by simp
theorem not_false' {a : Bool} : ((!a) = false) = (a = true) := by simp
theorem dec_true' {p : Prop} [Decidable p] : (decide p = true) = p := by simp
theorem dec_false' {p : Prop} [Decidable p] : (decide p = false) = ¬ p := by simp
def repK (x : Rx) : Prop := x.kind = 2 ∨ x.kind = 3 ∨ x.kind = 4
instance (x : Rx) : Decidable (repK x) := by unfold repK; infer_instance
theorem node_p3_runs {m : Nat} {x : Rx} {r : List L}
    (hr : ¬ fieldsQ x → r = [.int .i64 1]) (hg : fieldsQ x → Runs (cfg [k_node m]) (node_q10 (x.kind == 4) x.kind (encRs x.set) x.mn x.mx (x.subs.map encX)) r) :
    Runs (cfg [k_node m]) (node_q3 (x.kind == 1) (x.kind == 4) (decide (x.kind = 2 ∨ x.kind = 3 ∨ x.kind = 4)) x.kind (encRs x.set) x.mn x.mx (x.subs.map encX)) r := by
  refine Runs.by (node_p3 · _ _ _ _ _ _ _ _ _) ?_
  simp only [encRs_len, List.length_map]
  by_cases hq : fieldsQ x
  · have hg := hg hq
    unfold fieldsQ at hq
    clear hr
    (repeat' (refine RunsF.cond (fun _ => ?_) (fun _ => ?_)))
    all_goals first
      | exact .go hg
      | (exfalso; clear hg; ((simp only [beq_true_int, beq_false_int, bne_true_int, bne_false_int, ltI_true', ltI_false', leI_true', leI_false', beq_bool, beq_bool', not_true', not_false', dec_true', dec_false'] at *; omega)))
  · have hr := hr hq
    subst hr
    clear hg
    unfold fieldsQ at hq
    (repeat' (refine RunsF.cond (fun _ => ?_) (fun _ => ?_)))
    all_goals first
      | exact .ret
      | (exfalso; ((simp only [beq_true_int, beq_false_int, bne_true_int, bne_false_int, ltI_true', ltI_false', leI_true', leI_false', beq_bool, beq_bool', not_true', not_false', dec_true', dec_false'] at *; omega)))
theorem node_e_runs {m : Nat} {x : Rx} {r : List L}
    (hr : ¬ fieldsQ x → r = [.int .i64 1]) (hg : fieldsQ x → Runs (cfg [k_node m]) (node_q10 (x.kind == 4) x.kind (encRs x.set) x.mn x.mx (x.subs.map encX)) r) :
    Runs (cfg [k_node m]) (.enter n_regex_node [.agg [.int .i64 x.kind, .lst 48 (encRs x.set), .int .i64 x.mn, .int .i64 x.mx, .lst 25 (x.subs.map encX)]] []) r := by
  have h := node_p3_runs hr hg
  refine Runs.by (node_e · _ _ _ _ _ _) ?_
  by_cases h4 : x.kind = 4
  · rw [ev_eq_t h4]
    rw [ev_eq_t h4] at h
    rw [decide_eq_true (by omega)] at h
    exact .go h
  · rw [ev_eq_f h4]
    rw [ev_eq_f h4] at h
    by_cases h2 : x.kind = 2
    · rw [ev_eq_t h2]
      rw [decide_eq_true (by omega)] at h
      exact .go h
    · rw [ev_eq_f h2]
      have e : decide (x.kind = 2 ∨ x.kind = 3 ∨ x.kind = 4) = (x.kind == 3) := by
        rw [Bool.eq_iff_iff, decide_eq_true_eq, beq_iff_eq]; omega
      rw [e] at h
      exact .go h
/-- Not in order from number 'i' on. -/
theorem node_sets {m : Nat} {x : Rx} {r : List L} (hl : x.set.length ≤ 1000000000000) (h1 : ¬ ordP x.set → r = [.int .i64 1]) (h2 : ordP x.set → Runs (cfg [k_node m]) (node_q16 (x.kind == 4) x.kind (encRs x.set) x.mn x.mx (x.subs.map encX)) r) :
    ∀ k i : Nat, i + k = x.set.length → (∀ j, j < i → (x.set.getD j (0, 0)).1.toNat ≤ (x.set.getD j (0, 0)).2.toNat) → Runs (cfg [k_node m]) (node_q11 (x.kind == 4) (encRs x.set) (x.set.length : Nat) (i : Nat) x.kind (encRs x.set) x.mn x.mx (x.subs.map encX)) r
  | 0, i, h, hj => by
    refine Runs.by (node_p11 · _ _ _ _ _ _ _ _ _ _) ?_
    simp (disch := omega) only [ev_lt_f, cond_false]
    refine .go (h2 fun q hq => ?_)
    obtain ⟨j, hj', rfl⟩ := List.getElem_of_mem hq
    have := hj j (by omega)
    simpa [hj'] using this
  | k + 1, i, h, hj => by
    refine Runs.by (node_p11 · _ _ _ _ _ _ _ _ _ _) ?_
    have hi : i < x.set.length := by omega
    simp (disch := omega) only [encRs_len, ev_lt_t, ev_le_t, cond_true, Bool.and_self, rs_at, cI0, cI1, w64]
    cases he : ltI ((x.set.getD i (0, 0)).2.toNat : Int) ((x.set.getD i (0, 0)).1.toNat : Int) with
    | true =>
      have he := ltI_t he
      refine .ret' (h1 fun ho => ?_).symm
      have := ho (x.set.getD i (0, 0)) (by simp [List.getD_eq_getElem?_getD, hi])
      omega
    | false =>
      have he := ltI_f he
      refine .go (node_sets hl h1 h2 k (i + 1) (by omega) fun j hj' => ?_)
      by_cases e : j = i
      · subst e; omega
      · exact hj j (by omega)
theorem node_cnt {m : Nat} {x : Rx} {r : List L} (h1 : cntP x → r = [.int .i64 2]) (h2 : ¬ cntP x → Runs (cfg [k_node m]) (node_q19 (x.subs.map encX) (x.subs.length : Nat) 0) r) :
    Runs (cfg [k_node m]) (node_q16 (x.kind == 4) x.kind (encRs x.set) x.mn x.mx (x.subs.map encX)) r := by
  refine Runs.by (node_p16 · _ _ _ _ _ _ _) ?_
  simp only [List.length_map]
  by_cases hq : cntP x
  · have hr := h1 hq
    subst hr
    clear h1 h2
    unfold cntP at hq
    (repeat' (refine RunsF.cond (fun _ => ?_) (fun _ => ?_)))
    all_goals first
      | exact .ret
      | (exfalso; ((simp only [beq_true_int, beq_false_int, bne_true_int, bne_false_int, ltI_true', ltI_false', leI_true', leI_false', beq_bool, beq_bool', not_true', not_false', dec_true', dec_false'] at *; omega)))
  · have hg := h2 hq
    clear h1 h2
    unfold cntP at hq
    (repeat' (refine RunsF.cond (fun _ => ?_) (fun _ => ?_)))
    all_goals first
      | exact .go hg
      | (exfalso; clear hg; ((simp only [beq_true_int, beq_false_int, bne_true_int, bne_false_int, ltI_true', ltI_false', leI_true', leI_false', beq_bool, beq_bool', not_true', not_false', dec_true', dec_false'] at *; omega)))
theorem node_subs {m : Nat} (l : List Rx) (hl : l.length ≤ 1000000000000) (h1 : ∀ x ∈ l, x.ok ∧ x.lev ≤ m) : ∀ k i : Nat, i + k = l.length →
    Runs (cfg [k_node m]) (node_q19 (l.map encX) (l.length : Nat) (i : Nat)) [.int .i64 (nodeSL (l.drop i))]
  | 0, i, h => by
    refine Runs.by (node_p19 · _ _ _ _) ?_
    simp (disch := omega) only [ev_lt_f, cond_false]
    rw [drop_end (by omega), nodeSL]
    exact .ret
  | k + 1, i, h => by
    refine Runs.by (node_p19 · _ _ _ _) ?_
    have hi : i < l.length := by omega
    have m1 := h1 _ (mem_getD hi)
    simp (disch := omega) only [List.length_map, ev_lt_t, ev_le_t, cond_true, Bool.and_self, xs_at, el_enc, w64, isX_enc m1.1 m1.2, decX_enc]
    rw [drop_at default hi, nodeSL]
    cases nodeS (l.getD i default) != 0 with
    | true => exact .ret
    | false => exact .go (node_subs l hl h1 k (i + 1) (by omega))
theorem node_holds : ∀ n, Holds (k_node n)
  | 0 => cX1_of (xs := []) hold0 fun x ho hl => (no_lev hl).elim
  | n + 1 => cX1_of (xs := [k_node n]) (hold1 (node_holds n) hold0) fun x ho hl => by
    have e := nodeS_eq x
    refine node_e_runs (fun h => ?_) fun hq => ?_
    · rw [e, if_pos fun h' => h ((fieldsP_iff x).1 h').1]
    · refine Runs.by (node_p10 · _ _ _ _ _ _ _) (.go ?_)
      rw [encRs_len]
      refine node_sets (ok_set ho) (fun h => ?_) (fun ho' => ?_) x.set.length 0 (by omega) fun j h => absurd h (Nat.not_lt_zero _)
      · rw [e, if_pos fun h' => h ((fieldsP_iff x).1 h').2]
      · have hp := (fieldsP_iff x).2 ⟨hq, ho'⟩
        rw [if_neg (fun h => h hp)] at e
        refine node_cnt (fun h => ?_) (fun h => ?_)
        · rw [e, if_pos h]
        · rw [e, if_neg h]
          exact node_subs x.subs (ok_subs ho) (subs_in ho hl) x.subs.length 0 (by omega)
/-! ### the reference -/
theorem fields_loop {x : Rx} (hl : x.set.length ≤ 1000000000000) (h0 : 1 ≤ x.kind ∧ x.kind ≤ 7 ∧ (x.kind = 1 ↔ 0 < x.set.length)) : ∀ k i : Nat, i + k = x.set.length → (∀ j, j < i → (x.set.getD j (0, 0)).1.toNat ≤ (x.set.getD j (0, 0)).2.toNat) →
    Runs (cfg []) (fields_q6 (i : Nat) x.kind (encRs x.set) x.mn x.mx (x.subs.map encX)) [.bool (decide (fieldsP x))]
  | 0, i, h, hj => by
    refine Runs.by (fields_p6 · _ _ _ _ _ _) ?_
    simp (disch := omega) only [encRs_len, List.length_map, ev_lt_f, cond_false]
    have ho : ordP x.set := fun q hq => by
      obtain ⟨j, hj', rfl⟩ := List.getElem_of_mem hq
      have := hj j (by omega)
      simpa [hj'] using this
    have hf : fieldsP x ↔ fieldsQ x := by rw [fieldsP_iff]; exact ⟨fun h => h.1, fun h => ⟨h, ho⟩⟩
    by_cases hq : fieldsQ x
    · rw [decide_eq_true (hf.2 hq)]
      clear hf hj
      unfold fieldsQ at hq
      (repeat' (refine RunsF.cond (fun _ => ?_) (fun _ => ?_)))
      all_goals first
        | exact .ret
        | (refine .ret' (congrArg (fun b => [L.bool b]) ?_); rw [Bool.eq_iff_iff]; simp only [beq_true_int, bne_true_int, bne_false_int, beq_false_int, leI_true', ltI_true', ltI_false', iff_true] at *; omega)
        | (exfalso; ((simp only [beq_true_int, beq_false_int, bne_true_int, bne_false_int, ltI_true', ltI_false', leI_true', leI_false', beq_bool, beq_bool', not_true', not_false', dec_true', dec_false'] at *; omega)))
    · rw [decide_eq_false fun h => hq (hf.1 h)]
      clear hf hj
      unfold fieldsQ at hq
      (repeat' (refine RunsF.cond (fun _ => ?_) (fun _ => ?_)))
      all_goals first
        | exact .ret
        | (refine .ret' (congrArg (fun b => [L.bool b]) ?_); rw [Bool.eq_iff_iff]; simp only [beq_true_int, bne_true_int, bne_false_int, beq_false_int, leI_true', ltI_true', ltI_false', Bool.false_eq_true, iff_false] at *; omega)
        | (exfalso; ((simp only [beq_true_int, beq_false_int, bne_true_int, bne_false_int, ltI_true', ltI_false', leI_true', leI_false', beq_bool, beq_bool', not_true', not_false', dec_true', dec_false'] at *; omega)))
  | k + 1, i, h, hj => by
    refine Runs.by (fields_p6 · _ _ _ _ _ _) ?_
    have hi : i < x.set.length := by omega
    simp (disch := omega) only [encRs_len, ev_lt_t, ev_le_t, cond_true, Bool.and_self, rs_at, cI0, cI1, w64]
    cases he : ltI ((x.set.getD i (0, 0)).2.toNat : Int) ((x.set.getD i (0, 0)).1.toNat : Int) with
    | true =>
      have he := ltI_t he
      refine .ret' ?_
      rw [decide_eq_false fun hp => ?_]
      have := ((fieldsP_iff x).1 hp).2 (x.set.getD i (0, 0)) (by simp [List.getD_eq_getElem?_getD, hi])
      omega
    | false =>
      have he := ltI_f he
      refine .go (fields_loop hl h0 k (i + 1) (by omega) fun j hj' => ?_)
      by_cases e : j = i
      · subst e; omega
      · exact hj j (by omega)
theorem fields_holds : Holds k_fields := cX1_of (xs := []) hold0 fun x ho hl => by
  refine Runs.by (fields_e · _ _ _ _ _) ?_
  rw [encRs_len]
  by_cases h : 1 ≤ x.kind ∧ x.kind ≤ 7 ∧ (x.kind = 1 ↔ 0 < x.set.length)
  · have hg := fields_loop (ok_set ho) h x.set.length 0 (by omega) fun j h => absurd h (Nat.not_lt_zero _)
    (repeat' (refine RunsF.cond (fun _ => ?_) (fun _ => ?_)))
    all_goals first
      | exact .go hg
      | (exfalso; clear hg; ((simp only [beq_true_int, beq_false_int, bne_true_int, bne_false_int, ltI_true', ltI_false', leI_true', leI_false', beq_bool, beq_bool', not_true', not_false', dec_true', dec_false'] at *; omega)))
  · rw [decide_eq_false fun hp => h ⟨hp.1, hp.2.1, hp.2.2.1⟩]
    (repeat' (refine RunsF.cond (fun _ => ?_) (fun _ => ?_)))
    all_goals first
      | exact .ret
      | (exfalso; ((simp only [beq_true_int, beq_false_int, bne_true_int, bne_false_int, ltI_true', ltI_false', leI_true', leI_false', beq_bool, beq_bool', not_true', not_false', dec_true', dec_false'] at *; omega)))
theorem rnode_subs {m : Nat} (a0 : Int) (a1 : List (List L)) (a2 a3 : Int) (l : List Rx) (hl : l.length ≤ 1000000000000) (h1 : ∀ x ∈ l, x.ok ∧ x.lev ≤ m) : ∀ k i : Nat, i + k = l.length →
    Runs (cfg [k_fields, k_rnode m]) (rnode_q6 (i : Nat) a0 a1 a2 a3 (l.map encX)) [.int .i64 (nodeSL (l.drop i))]
  | 0, i, h => by
    refine Runs.by (rnode_p6 · _ _ _ _ _ _ _) ?_
    simp (disch := omega) only [List.length_map, ev_lt_f, cond_false]
    rw [drop_end (by omega), nodeSL]
    exact .ret
  | k + 1, i, h => by
    refine Runs.by (rnode_p6 · _ _ _ _ _ _ _) ?_
    have hi : i < l.length := by omega
    have m1 := h1 _ (mem_getD hi)
    simp (disch := omega) only [List.length_map, ev_lt_t, ev_le_t, cond_true, Bool.and_self, xs_at, el_enc, w64, isX_enc m1.1 m1.2, decX_enc]
    rw [drop_at default hi, nodeSL]
    cases nodeS (l.getD i default) != 0 with
    | true => exact .ret
    | false => exact .go (rnode_subs a0 a1 a2 a3 l hl h1 k (i + 1) (by omega))
theorem rnode_holds : ∀ n, Holds (k_rnode n)
  | 0 => cX1_of (xs := []) hold0 fun x ho hl => (no_lev hl).elim
  | n + 1 => cX1_of (xs := [k_fields, k_rnode n]) (hold1 fields_holds (hold1 (rnode_holds n) hold0)) fun x ho hl => by
    have e := nodeS_eq x
    refine Runs.by (rnode_e · _ _ _ _ _ _) ?_
    rw [dec5, is5 ho (ok_lev ho)]
    by_cases hp : fieldsP x
    · rw [if_neg (fun h => h hp)] at e
      rw [decide_eq_true hp]
      simp only [Bool.not_true, cond_false, cond_true]
      have hg := rnode_subs (m := n) x.kind (encRs x.set) x.mn x.mx x.subs (ok_subs ho) (subs_in ho hl) x.subs.length 0 (by omega)
      by_cases hq : cntP x
      · rw [e, if_pos hq]
        clear hg e
        unfold cntP at hq
        (repeat' (refine RunsF.cond (fun _ => ?_) (fun _ => ?_)))
        all_goals first
          | exact .ret
          | (exfalso; clear hp; ((simp only [beq_true_int, beq_false_int, bne_true_int, bne_false_int, ltI_true', ltI_false', leI_true', leI_false', beq_bool, beq_bool', not_true', not_false', dec_true', dec_false'] at *; omega)))
      · rw [e, if_neg hq]
        clear e
        unfold cntP at hq
        (repeat' (refine RunsF.cond (fun _ => ?_) (fun _ => ?_)))
        all_goals first
          | exact .go hg
          | (exfalso; clear hg hp; ((simp only [beq_true_int, beq_false_int, bne_true_int, bne_false_int, ltI_true', ltI_false', leI_true', leI_false', beq_bool, beq_bool', not_true', not_false', dec_true', dec_false'] at *; omega)))
    · rw [decide_eq_false hp, e, if_pos hp]
      exact .ret
theorem Right_holds : Holds k_Right := cX1_of (xs := [k_node 1000000000000, k_size 1000000000000]) (hold1 (node_holds _) (hold1 (size_holds _) hold0)) fun x ho hl => by
  refine Runs.by (Right_e · _ _ _ _ _) ?_
  rw [dec5, is5 ho hl]
  unfold rightS
  simp only [cond_true]
  cases nodeS x != 0 with
  | true => exact .ret
  | false =>
    cases ltI 40 (x.nodes : Nat) with
    | true => exact .ret
    | false => cases ltI 12 (x.lev : Nat) <;> exact .ret
theorem rRight_holds : Holds k_rRight := cX1_of (xs := [k_rnode 1000000000000, k_rSize 1000000000000, k_rDepth 1000000000000]) (hold1 (rnode_holds _) (hold1 (rSize_holds _) (hold1 (rDepth_holds _) hold0))) fun x ho hl => by
  refine Runs.by (rRight_e · _ _ _ _ _) ?_
  rw [dec5, is5 ho hl]
  unfold rightS
  simp only [cond_true]
  cases nodeS x != 0 with
  | true => exact .ret
  | false =>
    cases ltI 40 (x.nodes : Nat) with
    | true => exact .ret
    | false => cases ltI 12 (x.lev : Nat) <;> exact .ret
end Go.Ab
namespace Go.Ab
open Go.Proofs

/-- Of one right expression, to several cells. -/
noncomputable def cX1r (n : Nat) (f : Rx → List L) : Con
  | [.agg [.int .i64 a0, .lst 48 a1, .int .i64 a2, .int .i64 a3, .lst 25 a4]], [] =>
    some (isX [.int .i64 a0, .lst 48 a1, .int .i64 a2, .int .i64 a3, .lst 25 a4] n && (nodeS (decX [.int .i64 a0, .lst 48 a1, .int .i64 a2, .int .i64 a3, .lst 25 a4]) == 0), f (decX [.int .i64 a0, .lst 48 a1, .int .i64 a2, .int .i64 a3, .lst 25 a4]))
  | _, _ => none
/-- One more part. -/
def lenA (k : Int) (first : Bool) (a lo : Int) : Int := cond (k == 2) (wrapI .i64 (a + lo)) (cond (first || ltI lo a) lo a)
def lenB (k : Int) (b hi : Int) : Int := cond (ltI hi 0 || ltI b 0) (-1) (cond (k == 2) (wrapI .i64 (b + hi)) (if hi > b then hi else b))
mutual
def lenS : Rx → Int × Int
  | .mk k s mn mx ss => cond (k == 1) (1, 1) (cond (k == 4) (lenR mn mx ss) (lenL k true 0 0 ss))
def lenR (mn mx : Int) : List Rx → Int × Int
  | [] => (0, 0)
  | y :: _ => (wrapI .i64 ((lenS y).1 * mn), cond ((ltI 0 (lenS y).2 && ltI mx 0) || ltI (lenS y).2 0) (-1) (cond (leI 0 mx) (wrapI .i64 ((lenS y).2 * mx)) (lenS y).2))
def lenL (k : Int) (first : Bool) (a b : Int) : List Rx → Int × Int
  | [] => (a, b)
  | y :: ys => lenL k false (lenA k first a (lenS y).1) (lenB k b (lenS y).2) ys
end
theorem lenS_eq (x : Rx) : lenS x = cond (x.kind == 1) (1, 1) (cond (x.kind == 4) (lenR x.mn x.mx x.subs) (lenL x.kind true 0 0 x.subs)) := by cases x; rw [lenS]; rfl
noncomputable def k_Lens (n : Nat) : Nat × Con := (n_regex_Lengths, cX1r n fun x => [.int .i64 (lenS x).1, .int .i64 (lenS x).2])
noncomputable def k_rLens (n : Nat) : Nat × Con := (n_codesearchref08_Lengths, cX1r n fun x => [.int .i64 (lenS x).1, .int .i64 (lenS x).2])
/-- Of an expression with parts: guard: it is a sequence or an alternative. -/
noncomputable def k_total (n : Nat) : Nat × Con := (n_regex_total, fun
  | [.agg [.int .i64 a0, .lst 48 a1, .int .i64 a2, .int .i64 a3, .lst 25 a4]], [] =>
    some (isX [.int .i64 a0, .lst 48 a1, .int .i64 a2, .int .i64 a3, .lst 25 a4] (n + 1) && (nodeS (decX [.int .i64 a0, .lst 48 a1, .int .i64 a2, .int .i64 a3, .lst 25 a4]) == 0),
      [.int .i64 (lenL a0 true 0 0 (decXs a4)).1, .int .i64 (lenL a0 true 0 0 (decXs a4)).2])
  | _, _ => none)
end Go.Ab
namespace Go.Ab
open Go.Proofs
/-! codesearch/regex.total -/
noncomputable def total_q3 (least4 : Int) (most5 : Int) (x11 : List (List L)) (x12 : Int) (x13 : Int) (h0_0 : Int) (h0_1 : List (List L)) (h0_2 : Int) (h0_3 : Int) (h0_4 : List (List L)) : Req := .point 45 [] (todoAt Tryd.prog 45 3) ⟨[an, (.lf (.ptr 0 0)), an, an, (.lf (.int IntKind.i64 least4)), (.lf (.int IntKind.i64 most5)), an, an, an, an, an, (.lf (.lst 25 x11)), (.lf (.int IntKind.i64 x12)), (.lf (.int IntKind.i64 x13)), an, an, an, an, an, an, an, an, an, an, an, an, an, an, an, an, an, an, an, an, an, an, an, an, an, an, an, an, an, an, an, an, an, an, an, an, an, an, an, an, an, an, an], [(.box [(.int IntKind.i64), (.sl 48), (.int IntKind.i64), (.int IntKind.i64), (.sl 25)] [(.int IntKind.i64 h0_0), (.lst 48 h0_1), (.int IntKind.i64 h0_2), (.int IntKind.i64 h0_3), (.lst 25 h0_4)])]⟩
theorem total_e (G : Req → R) (m : Nat) (re0_0 : Int) (re0_1 : List (List L)) (re0_2 : Int) (re0_3 : Int) (re0_4 : List (List L)) : runB (cfg [(k_Lens m)]) G (.enter 45 [(.agg [(.int IntKind.i64 (re0_0)), (.lst 48 re0_1), (.int IntKind.i64 (re0_2)), (.int IntKind.i64 (re0_3)), (.lst 25 re0_4)])] []) =
  (G (total_q3 0 0 re0_4 ((↑(List.length re0_4) : Int)) 0 re0_0 re0_1 re0_2 re0_3 re0_4)) := by kernel_rfl
theorem total_p3 (G : Req → R) (m : Nat) (least4 : Int) (most5 : Int) (x11 : List (List L)) (x12 : Int) (x13 : Int) (h0_0 : Int) (h0_1 : List (List L)) (h0_2 : Int) (h0_3 : Int) (h0_4 : List (List L)) : runB (cfg [(k_Lens m)]) G (total_q3 least4 most5 x11 x12 x13 h0_0 h0_1 h0_2 h0_3 h0_4) =
  (cond (ltI x13 x12)
   (cond (leI 0 x13 && ltI x13 (↑(List.length x11) : Int))
    (cond (isX [L.int IntKind.i64 (cI 0 (atL x11 x13)), L.lst 48 (cX 1 (atL x11 x13)), L.int IntKind.i64 (cI 2 (atL x11 x13)), L.int IntKind.i64 (cI 3 (atL x11 x13)), L.lst 25 (cX 4 (atL x11 x13))] m && nodeS (decX [L.int IntKind.i64 (cI 0 (atL x11 x13)), L.lst 48 (cX 1 (atL x11 x13)), L.int IntKind.i64 (cI 2 (atL x11 x13)), L.int IntKind.i64 (cI 3 (atL x11 x13)), L.lst 25 (cX 4 (atL x11 x13))]) == 0)
     (cond (h0_0 == 2)
      (cond (ltI (Prod.snd (lenS (decX [L.int IntKind.i64 (cI 0 (atL x11 x13)), L.lst 48 (cX 1 (atL x11 x13)), L.int IntKind.i64 (cI 2 (atL x11 x13)), L.int IntKind.i64 (cI 3 (atL x11 x13)), L.lst 25 (cX 4 (atL x11 x13))]))) 0)
       (G (total_q3 (wrapI IntKind.i64 (least4 + Prod.fst (lenS (decX [L.int IntKind.i64 (cI 0 (atL x11 x13)), L.lst 48 (cX 1 (atL x11 x13)), L.int IntKind.i64 (cI 2 (atL x11 x13)), L.int IntKind.i64 (cI 3 (atL x11 x13)), L.lst 25 (cX 4 (atL x11 x13))])))) (-1) x11 x12 (wrapI IntKind.i64 (x13 + 1)) h0_0 h0_1 h0_2 h0_3 h0_4))
       (cond (ltI most5 0)
        (G (total_q3 (wrapI IntKind.i64 (least4 + Prod.fst (lenS (decX [L.int IntKind.i64 (cI 0 (atL x11 x13)), L.lst 48 (cX 1 (atL x11 x13)), L.int IntKind.i64 (cI 2 (atL x11 x13)), L.int IntKind.i64 (cI 3 (atL x11 x13)), L.lst 25 (cX 4 (atL x11 x13))])))) (-1) x11 x12 (wrapI IntKind.i64 (x13 + 1)) h0_0 h0_1 h0_2 h0_3 h0_4))
        (cond (h0_0 == 2)
         (G (total_q3 (wrapI IntKind.i64 (least4 + Prod.fst (lenS (decX [L.int IntKind.i64 (cI 0 (atL x11 x13)), L.lst 48 (cX 1 (atL x11 x13)), L.int IntKind.i64 (cI 2 (atL x11 x13)), L.int IntKind.i64 (cI 3 (atL x11 x13)), L.lst 25 (cX 4 (atL x11 x13))])))) (wrapI IntKind.i64 (most5 + Prod.snd (lenS (decX [L.int IntKind.i64 (cI 0 (atL x11 x13)), L.lst 48 (cX 1 (atL x11 x13)), L.int IntKind.i64 (cI 2 (atL x11 x13)), L.int IntKind.i64 (cI 3 (atL x11 x13)), L.lst 25 (cX 4 (atL x11 x13))])))) x11 x12 (wrapI IntKind.i64 (x13 + 1)) h0_0 h0_1 h0_2 h0_3 h0_4))
         (G (total_q3 (wrapI IntKind.i64 (least4 + Prod.fst (lenS (decX [L.int IntKind.i64 (cI 0 (atL x11 x13)), L.lst 48 (cX 1 (atL x11 x13)), L.int IntKind.i64 (cI 2 (atL x11 x13)), L.int IntKind.i64 (cI 3 (atL x11 x13)), L.lst 25 (cX 4 (atL x11 x13))])))) (if Prod.snd (lenS (decX [L.int IntKind.i64 (cI 0 (atL x11 x13)), L.lst 48 (cX 1 (atL x11 x13)), L.int IntKind.i64 (cI 2 (atL x11 x13)), L.int IntKind.i64 (cI 3 (atL x11 x13)), L.lst 25 (cX 4 (atL x11 x13))])) > most5 then Prod.snd (lenS (decX [L.int IntKind.i64 (cI 0 (atL x11 x13)), L.lst 48 (cX 1 (atL x11 x13)), L.int IntKind.i64 (cI 2 (atL x11 x13)), L.int IntKind.i64 (cI 3 (atL x11 x13)), L.lst 25 (cX 4 (atL x11 x13))])) else most5) x11 x12 (wrapI IntKind.i64 (x13 + 1)) h0_0 h0_1 h0_2 h0_3 h0_4)))))
      (cond (x13 == 0)
       (cond (ltI (Prod.snd (lenS (decX [L.int IntKind.i64 (cI 0 (atL x11 x13)), L.lst 48 (cX 1 (atL x11 x13)), L.int IntKind.i64 (cI 2 (atL x11 x13)), L.int IntKind.i64 (cI 3 (atL x11 x13)), L.lst 25 (cX 4 (atL x11 x13))]))) 0)
        (G (total_q3 (Prod.fst (lenS (decX [L.int IntKind.i64 (cI 0 (atL x11 x13)), L.lst 48 (cX 1 (atL x11 x13)), L.int IntKind.i64 (cI 2 (atL x11 x13)), L.int IntKind.i64 (cI 3 (atL x11 x13)), L.lst 25 (cX 4 (atL x11 x13))]))) (-1) x11 x12 (wrapI IntKind.i64 (x13 + 1)) h0_0 h0_1 h0_2 h0_3 h0_4))
        (cond (ltI most5 0)
         (G (total_q3 (Prod.fst (lenS (decX [L.int IntKind.i64 (cI 0 (atL x11 x13)), L.lst 48 (cX 1 (atL x11 x13)), L.int IntKind.i64 (cI 2 (atL x11 x13)), L.int IntKind.i64 (cI 3 (atL x11 x13)), L.lst 25 (cX 4 (atL x11 x13))]))) (-1) x11 x12 (wrapI IntKind.i64 (x13 + 1)) h0_0 h0_1 h0_2 h0_3 h0_4))
         (cond (h0_0 == 2)
          (G (total_q3 (Prod.fst (lenS (decX [L.int IntKind.i64 (cI 0 (atL x11 x13)), L.lst 48 (cX 1 (atL x11 x13)), L.int IntKind.i64 (cI 2 (atL x11 x13)), L.int IntKind.i64 (cI 3 (atL x11 x13)), L.lst 25 (cX 4 (atL x11 x13))]))) (wrapI IntKind.i64 (most5 + Prod.snd (lenS (decX [L.int IntKind.i64 (cI 0 (atL x11 x13)), L.lst 48 (cX 1 (atL x11 x13)), L.int IntKind.i64 (cI 2 (atL x11 x13)), L.int IntKind.i64 (cI 3 (atL x11 x13)), L.lst 25 (cX 4 (atL x11 x13))])))) x11 x12 (wrapI IntKind.i64 (x13 + 1)) h0_0 h0_1 h0_2 h0_3 h0_4))
          (G (total_q3 (Prod.fst (lenS (decX [L.int IntKind.i64 (cI 0 (atL x11 x13)), L.lst 48 (cX 1 (atL x11 x13)), L.int IntKind.i64 (cI 2 (atL x11 x13)), L.int IntKind.i64 (cI 3 (atL x11 x13)), L.lst 25 (cX 4 (atL x11 x13))]))) (if Prod.snd (lenS (decX [L.int IntKind.i64 (cI 0 (atL x11 x13)), L.lst 48 (cX 1 (atL x11 x13)), L.int IntKind.i64 (cI 2 (atL x11 x13)), L.int IntKind.i64 (cI 3 (atL x11 x13)), L.lst 25 (cX 4 (atL x11 x13))])) > most5 then Prod.snd (lenS (decX [L.int IntKind.i64 (cI 0 (atL x11 x13)), L.lst 48 (cX 1 (atL x11 x13)), L.int IntKind.i64 (cI 2 (atL x11 x13)), L.int IntKind.i64 (cI 3 (atL x11 x13)), L.lst 25 (cX 4 (atL x11 x13))])) else most5) x11 x12 (wrapI IntKind.i64 (x13 + 1)) h0_0 h0_1 h0_2 h0_3 h0_4)))))
       (cond (ltI (Prod.fst (lenS (decX [L.int IntKind.i64 (cI 0 (atL x11 x13)), L.lst 48 (cX 1 (atL x11 x13)), L.int IntKind.i64 (cI 2 (atL x11 x13)), L.int IntKind.i64 (cI 3 (atL x11 x13)), L.lst 25 (cX 4 (atL x11 x13))]))) least4)
        (cond (ltI (Prod.snd (lenS (decX [L.int IntKind.i64 (cI 0 (atL x11 x13)), L.lst 48 (cX 1 (atL x11 x13)), L.int IntKind.i64 (cI 2 (atL x11 x13)), L.int IntKind.i64 (cI 3 (atL x11 x13)), L.lst 25 (cX 4 (atL x11 x13))]))) 0)
         (G (total_q3 (Prod.fst (lenS (decX [L.int IntKind.i64 (cI 0 (atL x11 x13)), L.lst 48 (cX 1 (atL x11 x13)), L.int IntKind.i64 (cI 2 (atL x11 x13)), L.int IntKind.i64 (cI 3 (atL x11 x13)), L.lst 25 (cX 4 (atL x11 x13))]))) (-1) x11 x12 (wrapI IntKind.i64 (x13 + 1)) h0_0 h0_1 h0_2 h0_3 h0_4))
         (cond (ltI most5 0)
          (G (total_q3 (Prod.fst (lenS (decX [L.int IntKind.i64 (cI 0 (atL x11 x13)), L.lst 48 (cX 1 (atL x11 x13)), L.int IntKind.i64 (cI 2 (atL x11 x13)), L.int IntKind.i64 (cI 3 (atL x11 x13)), L.lst 25 (cX 4 (atL x11 x13))]))) (-1) x11 x12 (wrapI IntKind.i64 (x13 + 1)) h0_0 h0_1 h0_2 h0_3 h0_4))
          (cond (h0_0 == 2)
           (G (total_q3 (Prod.fst (lenS (decX [L.int IntKind.i64 (cI 0 (atL x11 x13)), L.lst 48 (cX 1 (atL x11 x13)), L.int IntKind.i64 (cI 2 (atL x11 x13)), L.int IntKind.i64 (cI 3 (atL x11 x13)), L.lst 25 (cX 4 (atL x11 x13))]))) (wrapI IntKind.i64 (most5 + Prod.snd (lenS (decX [L.int IntKind.i64 (cI 0 (atL x11 x13)), L.lst 48 (cX 1 (atL x11 x13)), L.int IntKind.i64 (cI 2 (atL x11 x13)), L.int IntKind.i64 (cI 3 (atL x11 x13)), L.lst 25 (cX 4 (atL x11 x13))])))) x11 x12 (wrapI IntKind.i64 (x13 + 1)) h0_0 h0_1 h0_2 h0_3 h0_4))
           (G (total_q3 (Prod.fst (lenS (decX [L.int IntKind.i64 (cI 0 (atL x11 x13)), L.lst 48 (cX 1 (atL x11 x13)), L.int IntKind.i64 (cI 2 (atL x11 x13)), L.int IntKind.i64 (cI 3 (atL x11 x13)), L.lst 25 (cX 4 (atL x11 x13))]))) (if Prod.snd (lenS (decX [L.int IntKind.i64 (cI 0 (atL x11 x13)), L.lst 48 (cX 1 (atL x11 x13)), L.int IntKind.i64 (cI 2 (atL x11 x13)), L.int IntKind.i64 (cI 3 (atL x11 x13)), L.lst 25 (cX 4 (atL x11 x13))])) > most5 then Prod.snd (lenS (decX [L.int IntKind.i64 (cI 0 (atL x11 x13)), L.lst 48 (cX 1 (atL x11 x13)), L.int IntKind.i64 (cI 2 (atL x11 x13)), L.int IntKind.i64 (cI 3 (atL x11 x13)), L.lst 25 (cX 4 (atL x11 x13))])) else most5) x11 x12 (wrapI IntKind.i64 (x13 + 1)) h0_0 h0_1 h0_2 h0_3 h0_4)))))
        (cond (ltI (Prod.snd (lenS (decX [L.int IntKind.i64 (cI 0 (atL x11 x13)), L.lst 48 (cX 1 (atL x11 x13)), L.int IntKind.i64 (cI 2 (atL x11 x13)), L.int IntKind.i64 (cI 3 (atL x11 x13)), L.lst 25 (cX 4 (atL x11 x13))]))) 0)
         (G (total_q3 least4 (-1) x11 x12 (wrapI IntKind.i64 (x13 + 1)) h0_0 h0_1 h0_2 h0_3 h0_4))
         (cond (ltI most5 0)
          (G (total_q3 least4 (-1) x11 x12 (wrapI IntKind.i64 (x13 + 1)) h0_0 h0_1 h0_2 h0_3 h0_4))
          (cond (h0_0 == 2)
           (G (total_q3 least4 (wrapI IntKind.i64 (most5 + Prod.snd (lenS (decX [L.int IntKind.i64 (cI 0 (atL x11 x13)), L.lst 48 (cX 1 (atL x11 x13)), L.int IntKind.i64 (cI 2 (atL x11 x13)), L.int IntKind.i64 (cI 3 (atL x11 x13)), L.lst 25 (cX 4 (atL x11 x13))])))) x11 x12 (wrapI IntKind.i64 (x13 + 1)) h0_0 h0_1 h0_2 h0_3 h0_4))
           (G (total_q3 least4 (if Prod.snd (lenS (decX [L.int IntKind.i64 (cI 0 (atL x11 x13)), L.lst 48 (cX 1 (atL x11 x13)), L.int IntKind.i64 (cI 2 (atL x11 x13)), L.int IntKind.i64 (cI 3 (atL x11 x13)), L.lst 25 (cX 4 (atL x11 x13))])) > most5 then Prod.snd (lenS (decX [L.int IntKind.i64 (cI 0 (atL x11 x13)), L.lst 48 (cX 1 (atL x11 x13)), L.int IntKind.i64 (cI 2 (atL x11 x13)), L.int IntKind.i64 (cI 3 (atL x11 x13)), L.lst 25 (cX 4 (atL x11 x13))])) else most5) x11 x12 (wrapI IntKind.i64 (x13 + 1)) h0_0 h0_1 h0_2 h0_3 h0_4))))))))
     none)
    none)
   (some [(.int IntKind.i64 (least4)), (.int IntKind.i64 (most5))])) := by kernel_rfl

/-! codesearch/regex.Lengths -/
theorem Lens_e (G : Req → R) (m : Nat) (re0_0 : Int) (re0_1 : List (List L)) (re0_2 : Int) (re0_3 : Int) (re0_4 : List (List L)) : runB (cfg [(k_Lens m), (k_total m)]) G (.enter 22 [(.agg [(.int IntKind.i64 (re0_0)), (.lst 48 re0_1), (.int IntKind.i64 (re0_2)), (.int IntKind.i64 (re0_3)), (.lst 25 re0_4)])] []) =
  (cond (re0_0 == 1)
   (some [(.int IntKind.i64 (1)), (.int IntKind.i64 (1))])
   (cond (re0_0 == 2)
    (cond (re0_0 == 2)
     (cond (isX [L.int IntKind.i64 re0_0, L.lst 48 re0_1, L.int IntKind.i64 re0_2, L.int IntKind.i64 re0_3, L.lst 25 re0_4] (m + 1) && nodeS (decX [L.int IntKind.i64 re0_0, L.lst 48 re0_1, L.int IntKind.i64 re0_2, L.int IntKind.i64 re0_3, L.lst 25 re0_4]) == 0)
      (some [(.int IntKind.i64 (Prod.fst (lenL re0_0 true 0 0 (decXs re0_4)))), (.int IntKind.i64 (Prod.snd (lenL re0_0 true 0 0 (decXs re0_4))))])
      none)
     (cond (re0_0 == 4)
      (cond ((↑(List.length re0_4) : Int) == 0)
       (some [(.int IntKind.i64 (0)), (.int IntKind.i64 (0))])
       (cond (ltI 0 (↑(List.length re0_4) : Int))
        (cond (isX [L.int IntKind.i64 (cI 0 (atL re0_4 0)), L.lst 48 (cX 1 (atL re0_4 0)), L.int IntKind.i64 (cI 2 (atL re0_4 0)), L.int IntKind.i64 (cI 3 (atL re0_4 0)), L.lst 25 (cX 4 (atL re0_4 0))] m && nodeS (decX [L.int IntKind.i64 (cI 0 (atL re0_4 0)), L.lst 48 (cX 1 (atL re0_4 0)), L.int IntKind.i64 (cI 2 (atL re0_4 0)), L.int IntKind.i64 (cI 3 (atL re0_4 0)), L.lst 25 (cX 4 (atL re0_4 0))]) == 0)
         (cond (ltI 0 (Prod.snd (lenS (decX [L.int IntKind.i64 (cI 0 (atL re0_4 0)), L.lst 48 (cX 1 (atL re0_4 0)), L.int IntKind.i64 (cI 2 (atL re0_4 0)), L.int IntKind.i64 (cI 3 (atL re0_4 0)), L.lst 25 (cX 4 (atL re0_4 0))]))))
          (cond (ltI re0_3 0)
           (some [(.int IntKind.i64 (wrapI IntKind.i64 (Prod.fst (lenS (decX [L.int IntKind.i64 (cI 0 (atL re0_4 0)), L.lst 48 (cX 1 (atL re0_4 0)), L.int IntKind.i64 (cI 2 (atL re0_4 0)), L.int IntKind.i64 (cI 3 (atL re0_4 0)), L.lst 25 (cX 4 (atL re0_4 0))])) * re0_2))), (.int IntKind.i64 (-1))])
           (cond (ltI (Prod.snd (lenS (decX [L.int IntKind.i64 (cI 0 (atL re0_4 0)), L.lst 48 (cX 1 (atL re0_4 0)), L.int IntKind.i64 (cI 2 (atL re0_4 0)), L.int IntKind.i64 (cI 3 (atL re0_4 0)), L.lst 25 (cX 4 (atL re0_4 0))]))) 0)
            (some [(.int IntKind.i64 (wrapI IntKind.i64 (Prod.fst (lenS (decX [L.int IntKind.i64 (cI 0 (atL re0_4 0)), L.lst 48 (cX 1 (atL re0_4 0)), L.int IntKind.i64 (cI 2 (atL re0_4 0)), L.int IntKind.i64 (cI 3 (atL re0_4 0)), L.lst 25 (cX 4 (atL re0_4 0))])) * re0_2))), (.int IntKind.i64 (-1))])
            (cond (leI 0 re0_3)
             (some [(.int IntKind.i64 (wrapI IntKind.i64 (Prod.fst (lenS (decX [L.int IntKind.i64 (cI 0 (atL re0_4 0)), L.lst 48 (cX 1 (atL re0_4 0)), L.int IntKind.i64 (cI 2 (atL re0_4 0)), L.int IntKind.i64 (cI 3 (atL re0_4 0)), L.lst 25 (cX 4 (atL re0_4 0))])) * re0_2))), (.int IntKind.i64 (wrapI IntKind.i64 (Prod.snd (lenS (decX [L.int IntKind.i64 (cI 0 (atL re0_4 0)), L.lst 48 (cX 1 (atL re0_4 0)), L.int IntKind.i64 (cI 2 (atL re0_4 0)), L.int IntKind.i64 (cI 3 (atL re0_4 0)), L.lst 25 (cX 4 (atL re0_4 0))])) * re0_3)))])
             (some [(.int IntKind.i64 (wrapI IntKind.i64 (Prod.fst (lenS (decX [L.int IntKind.i64 (cI 0 (atL re0_4 0)), L.lst 48 (cX 1 (atL re0_4 0)), L.int IntKind.i64 (cI 2 (atL re0_4 0)), L.int IntKind.i64 (cI 3 (atL re0_4 0)), L.lst 25 (cX 4 (atL re0_4 0))])) * re0_2))), (.int IntKind.i64 (Prod.snd (lenS (decX [L.int IntKind.i64 (cI 0 (atL re0_4 0)), L.lst 48 (cX 1 (atL re0_4 0)), L.int IntKind.i64 (cI 2 (atL re0_4 0)), L.int IntKind.i64 (cI 3 (atL re0_4 0)), L.lst 25 (cX 4 (atL re0_4 0))]))))]))))
          (cond (ltI (Prod.snd (lenS (decX [L.int IntKind.i64 (cI 0 (atL re0_4 0)), L.lst 48 (cX 1 (atL re0_4 0)), L.int IntKind.i64 (cI 2 (atL re0_4 0)), L.int IntKind.i64 (cI 3 (atL re0_4 0)), L.lst 25 (cX 4 (atL re0_4 0))]))) 0)
           (some [(.int IntKind.i64 (wrapI IntKind.i64 (Prod.fst (lenS (decX [L.int IntKind.i64 (cI 0 (atL re0_4 0)), L.lst 48 (cX 1 (atL re0_4 0)), L.int IntKind.i64 (cI 2 (atL re0_4 0)), L.int IntKind.i64 (cI 3 (atL re0_4 0)), L.lst 25 (cX 4 (atL re0_4 0))])) * re0_2))), (.int IntKind.i64 (-1))])
           (cond (leI 0 re0_3)
            (some [(.int IntKind.i64 (wrapI IntKind.i64 (Prod.fst (lenS (decX [L.int IntKind.i64 (cI 0 (atL re0_4 0)), L.lst 48 (cX 1 (atL re0_4 0)), L.int IntKind.i64 (cI 2 (atL re0_4 0)), L.int IntKind.i64 (cI 3 (atL re0_4 0)), L.lst 25 (cX 4 (atL re0_4 0))])) * re0_2))), (.int IntKind.i64 (wrapI IntKind.i64 (Prod.snd (lenS (decX [L.int IntKind.i64 (cI 0 (atL re0_4 0)), L.lst 48 (cX 1 (atL re0_4 0)), L.int IntKind.i64 (cI 2 (atL re0_4 0)), L.int IntKind.i64 (cI 3 (atL re0_4 0)), L.lst 25 (cX 4 (atL re0_4 0))])) * re0_3)))])
            (some [(.int IntKind.i64 (wrapI IntKind.i64 (Prod.fst (lenS (decX [L.int IntKind.i64 (cI 0 (atL re0_4 0)), L.lst 48 (cX 1 (atL re0_4 0)), L.int IntKind.i64 (cI 2 (atL re0_4 0)), L.int IntKind.i64 (cI 3 (atL re0_4 0)), L.lst 25 (cX 4 (atL re0_4 0))])) * re0_2))), (.int IntKind.i64 (Prod.snd (lenS (decX [L.int IntKind.i64 (cI 0 (atL re0_4 0)), L.lst 48 (cX 1 (atL re0_4 0)), L.int IntKind.i64 (cI 2 (atL re0_4 0)), L.int IntKind.i64 (cI 3 (atL re0_4 0)), L.lst 25 (cX 4 (atL re0_4 0))]))))]))))
         none)
        none))
      (some [(.int IntKind.i64 (0)), (.int IntKind.i64 (0))])))
    (cond (re0_0 == 3)
     (cond (isX [L.int IntKind.i64 re0_0, L.lst 48 re0_1, L.int IntKind.i64 re0_2, L.int IntKind.i64 re0_3, L.lst 25 re0_4] (m + 1) && nodeS (decX [L.int IntKind.i64 re0_0, L.lst 48 re0_1, L.int IntKind.i64 re0_2, L.int IntKind.i64 re0_3, L.lst 25 re0_4]) == 0)
      (some [(.int IntKind.i64 (Prod.fst (lenL re0_0 true 0 0 (decXs re0_4)))), (.int IntKind.i64 (Prod.snd (lenL re0_0 true 0 0 (decXs re0_4))))])
      none)
     (cond (re0_0 == 4)
      (cond ((↑(List.length re0_4) : Int) == 0)
       (some [(.int IntKind.i64 (0)), (.int IntKind.i64 (0))])
       (cond (ltI 0 (↑(List.length re0_4) : Int))
        (cond (isX [L.int IntKind.i64 (cI 0 (atL re0_4 0)), L.lst 48 (cX 1 (atL re0_4 0)), L.int IntKind.i64 (cI 2 (atL re0_4 0)), L.int IntKind.i64 (cI 3 (atL re0_4 0)), L.lst 25 (cX 4 (atL re0_4 0))] m && nodeS (decX [L.int IntKind.i64 (cI 0 (atL re0_4 0)), L.lst 48 (cX 1 (atL re0_4 0)), L.int IntKind.i64 (cI 2 (atL re0_4 0)), L.int IntKind.i64 (cI 3 (atL re0_4 0)), L.lst 25 (cX 4 (atL re0_4 0))]) == 0)
         (cond (ltI 0 (Prod.snd (lenS (decX [L.int IntKind.i64 (cI 0 (atL re0_4 0)), L.lst 48 (cX 1 (atL re0_4 0)), L.int IntKind.i64 (cI 2 (atL re0_4 0)), L.int IntKind.i64 (cI 3 (atL re0_4 0)), L.lst 25 (cX 4 (atL re0_4 0))]))))
          (cond (ltI re0_3 0)
           (some [(.int IntKind.i64 (wrapI IntKind.i64 (Prod.fst (lenS (decX [L.int IntKind.i64 (cI 0 (atL re0_4 0)), L.lst 48 (cX 1 (atL re0_4 0)), L.int IntKind.i64 (cI 2 (atL re0_4 0)), L.int IntKind.i64 (cI 3 (atL re0_4 0)), L.lst 25 (cX 4 (atL re0_4 0))])) * re0_2))), (.int IntKind.i64 (-1))])
           (cond (ltI (Prod.snd (lenS (decX [L.int IntKind.i64 (cI 0 (atL re0_4 0)), L.lst 48 (cX 1 (atL re0_4 0)), L.int IntKind.i64 (cI 2 (atL re0_4 0)), L.int IntKind.i64 (cI 3 (atL re0_4 0)), L.lst 25 (cX 4 (atL re0_4 0))]))) 0)
            (some [(.int IntKind.i64 (wrapI IntKind.i64 (Prod.fst (lenS (decX [L.int IntKind.i64 (cI 0 (atL re0_4 0)), L.lst 48 (cX 1 (atL re0_4 0)), L.int IntKind.i64 (cI 2 (atL re0_4 0)), L.int IntKind.i64 (cI 3 (atL re0_4 0)), L.lst 25 (cX 4 (atL re0_4 0))])) * re0_2))), (.int IntKind.i64 (-1))])
            (cond (leI 0 re0_3)
             (some [(.int IntKind.i64 (wrapI IntKind.i64 (Prod.fst (lenS (decX [L.int IntKind.i64 (cI 0 (atL re0_4 0)), L.lst 48 (cX 1 (atL re0_4 0)), L.int IntKind.i64 (cI 2 (atL re0_4 0)), L.int IntKind.i64 (cI 3 (atL re0_4 0)), L.lst 25 (cX 4 (atL re0_4 0))])) * re0_2))), (.int IntKind.i64 (wrapI IntKind.i64 (Prod.snd (lenS (decX [L.int IntKind.i64 (cI 0 (atL re0_4 0)), L.lst 48 (cX 1 (atL re0_4 0)), L.int IntKind.i64 (cI 2 (atL re0_4 0)), L.int IntKind.i64 (cI 3 (atL re0_4 0)), L.lst 25 (cX 4 (atL re0_4 0))])) * re0_3)))])
             (some [(.int IntKind.i64 (wrapI IntKind.i64 (Prod.fst (lenS (decX [L.int IntKind.i64 (cI 0 (atL re0_4 0)), L.lst 48 (cX 1 (atL re0_4 0)), L.int IntKind.i64 (cI 2 (atL re0_4 0)), L.int IntKind.i64 (cI 3 (atL re0_4 0)), L.lst 25 (cX 4 (atL re0_4 0))])) * re0_2))), (.int IntKind.i64 (Prod.snd (lenS (decX [L.int IntKind.i64 (cI 0 (atL re0_4 0)), L.lst 48 (cX 1 (atL re0_4 0)), L.int IntKind.i64 (cI 2 (atL re0_4 0)), L.int IntKind.i64 (cI 3 (atL re0_4 0)), L.lst 25 (cX 4 (atL re0_4 0))]))))]))))
          (cond (ltI (Prod.snd (lenS (decX [L.int IntKind.i64 (cI 0 (atL re0_4 0)), L.lst 48 (cX 1 (atL re0_4 0)), L.int IntKind.i64 (cI 2 (atL re0_4 0)), L.int IntKind.i64 (cI 3 (atL re0_4 0)), L.lst 25 (cX 4 (atL re0_4 0))]))) 0)
           (some [(.int IntKind.i64 (wrapI IntKind.i64 (Prod.fst (lenS (decX [L.int IntKind.i64 (cI 0 (atL re0_4 0)), L.lst 48 (cX 1 (atL re0_4 0)), L.int IntKind.i64 (cI 2 (atL re0_4 0)), L.int IntKind.i64 (cI 3 (atL re0_4 0)), L.lst 25 (cX 4 (atL re0_4 0))])) * re0_2))), (.int IntKind.i64 (-1))])
           (cond (leI 0 re0_3)
            (some [(.int IntKind.i64 (wrapI IntKind.i64 (Prod.fst (lenS (decX [L.int IntKind.i64 (cI 0 (atL re0_4 0)), L.lst 48 (cX 1 (atL re0_4 0)), L.int IntKind.i64 (cI 2 (atL re0_4 0)), L.int IntKind.i64 (cI 3 (atL re0_4 0)), L.lst 25 (cX 4 (atL re0_4 0))])) * re0_2))), (.int IntKind.i64 (wrapI IntKind.i64 (Prod.snd (lenS (decX [L.int IntKind.i64 (cI 0 (atL re0_4 0)), L.lst 48 (cX 1 (atL re0_4 0)), L.int IntKind.i64 (cI 2 (atL re0_4 0)), L.int IntKind.i64 (cI 3 (atL re0_4 0)), L.lst 25 (cX 4 (atL re0_4 0))])) * re0_3)))])
            (some [(.int IntKind.i64 (wrapI IntKind.i64 (Prod.fst (lenS (decX [L.int IntKind.i64 (cI 0 (atL re0_4 0)), L.lst 48 (cX 1 (atL re0_4 0)), L.int IntKind.i64 (cI 2 (atL re0_4 0)), L.int IntKind.i64 (cI 3 (atL re0_4 0)), L.lst 25 (cX 4 (atL re0_4 0))])) * re0_2))), (.int IntKind.i64 (Prod.snd (lenS (decX [L.int IntKind.i64 (cI 0 (atL re0_4 0)), L.lst 48 (cX 1 (atL re0_4 0)), L.int IntKind.i64 (cI 2 (atL re0_4 0)), L.int IntKind.i64 (cI 3 (atL re0_4 0)), L.lst 25 (cX 4 (atL re0_4 0))]))))]))))
         none)
        none))
      (some [(.int IntKind.i64 (0)), (.int IntKind.i64 (0))]))))) := by kernel_rfl

/-! codesearch/codesearchref08.Lengths -/
noncomputable def rLens_q5 (least4 : Int) (most5 : Int) (i6 : Int) (h0_0 : Int) (h0_1 : List (List L)) (h0_2 : Int) (h0_3 : Int) (h0_4 : List (List L)) : Req := .point 23 [] (todoAt Tryd.prog 23 5) ⟨[an, (.lf (.ptr 0 0)), an, an, (.lf (.int IntKind.i64 least4)), (.lf (.int IntKind.i64 most5)), (.lf (.int IntKind.i64 i6)), an, an, an, an, an, an, an, an, an, an, an, an, an, an, an, an, an, an, an, an, an, an, an, an, an, an, an, an, an, an, an, an, an, an, an, an, an, an, an, an, an, an, an, an, an, an, an, an, an, an, an, an, an, an, an, an, an, an, an, an, an, an, an, an, an, an, an, an, an, an, an, an, an, an, an, an], [(.box [(.int IntKind.i64), (.sl 48), (.int IntKind.i64), (.int IntKind.i64), (.sl 25)] [(.int IntKind.i64 h0_0), (.lst 48 h0_1), (.int IntKind.i64 h0_2), (.int IntKind.i64 h0_3), (.lst 25 h0_4)])]⟩
theorem rLens_e (G : Req → R) (m : Nat) (re0_0 : Int) (re0_1 : List (List L)) (re0_2 : Int) (re0_3 : Int) (re0_4 : List (List L)) : runB (cfg [(k_rLens m)]) G (.enter 23 [(.agg [(.int IntKind.i64 (re0_0)), (.lst 48 re0_1), (.int IntKind.i64 (re0_2)), (.int IntKind.i64 (re0_3)), (.lst 25 re0_4)])] []) =
  (cond (re0_0 == 1)
   (some [(.int IntKind.i64 (1)), (.int IntKind.i64 (1))])
   (G (rLens_q5 0 0 0 re0_0 re0_1 re0_2 re0_3 re0_4))) := by kernel_rfl
theorem rLens_p5 (G : Req → R) (m : Nat) (least4 : Int) (most5 : Int) (i6 : Int) (h0_0 : Int) (h0_1 : List (List L)) (h0_2 : Int) (h0_3 : Int) (h0_4 : List (List L)) : runB (cfg [(k_rLens m)]) G (rLens_q5 least4 most5 i6 h0_0 h0_1 h0_2 h0_3 h0_4) =
  (cond (ltI i6 (↑(List.length h0_4) : Int))
   (cond (leI 0 i6 && ltI i6 (↑(List.length h0_4) : Int))
    (cond (isX [L.int IntKind.i64 (cI 0 (atL h0_4 i6)), L.lst 48 (cX 1 (atL h0_4 i6)), L.int IntKind.i64 (cI 2 (atL h0_4 i6)), L.int IntKind.i64 (cI 3 (atL h0_4 i6)), L.lst 25 (cX 4 (atL h0_4 i6))] m && nodeS (decX [L.int IntKind.i64 (cI 0 (atL h0_4 i6)), L.lst 48 (cX 1 (atL h0_4 i6)), L.int IntKind.i64 (cI 2 (atL h0_4 i6)), L.int IntKind.i64 (cI 3 (atL h0_4 i6)), L.lst 25 (cX 4 (atL h0_4 i6))]) == 0)
     (cond (h0_0 == 4)
      (cond (Prod.snd (lenS (decX [L.int IntKind.i64 (cI 0 (atL h0_4 i6)), L.lst 48 (cX 1 (atL h0_4 i6)), L.int IntKind.i64 (cI 2 (atL h0_4 i6)), L.int IntKind.i64 (cI 3 (atL h0_4 i6)), L.lst 25 (cX 4 (atL h0_4 i6))])) == 0)
       (some [(.int IntKind.i64 (wrapI IntKind.i64 (h0_2 * Prod.fst (lenS (decX [L.int IntKind.i64 (cI 0 (atL h0_4 i6)), L.lst 48 (cX 1 (atL h0_4 i6)), L.int IntKind.i64 (cI 2 (atL h0_4 i6)), L.int IntKind.i64 (cI 3 (atL h0_4 i6)), L.lst 25 (cX 4 (atL h0_4 i6))]))))), (.int IntKind.i64 (0))])
       (cond (ltI (Prod.snd (lenS (decX [L.int IntKind.i64 (cI 0 (atL h0_4 i6)), L.lst 48 (cX 1 (atL h0_4 i6)), L.int IntKind.i64 (cI 2 (atL h0_4 i6)), L.int IntKind.i64 (cI 3 (atL h0_4 i6)), L.lst 25 (cX 4 (atL h0_4 i6))]))) 0)
        (some [(.int IntKind.i64 (wrapI IntKind.i64 (h0_2 * Prod.fst (lenS (decX [L.int IntKind.i64 (cI 0 (atL h0_4 i6)), L.lst 48 (cX 1 (atL h0_4 i6)), L.int IntKind.i64 (cI 2 (atL h0_4 i6)), L.int IntKind.i64 (cI 3 (atL h0_4 i6)), L.lst 25 (cX 4 (atL h0_4 i6))]))))), (.int IntKind.i64 (-1))])
        (cond (ltI h0_3 0)
         (some [(.int IntKind.i64 (wrapI IntKind.i64 (h0_2 * Prod.fst (lenS (decX [L.int IntKind.i64 (cI 0 (atL h0_4 i6)), L.lst 48 (cX 1 (atL h0_4 i6)), L.int IntKind.i64 (cI 2 (atL h0_4 i6)), L.int IntKind.i64 (cI 3 (atL h0_4 i6)), L.lst 25 (cX 4 (atL h0_4 i6))]))))), (.int IntKind.i64 (-1))])
         (some [(.int IntKind.i64 (wrapI IntKind.i64 (h0_2 * Prod.fst (lenS (decX [L.int IntKind.i64 (cI 0 (atL h0_4 i6)), L.lst 48 (cX 1 (atL h0_4 i6)), L.int IntKind.i64 (cI 2 (atL h0_4 i6)), L.int IntKind.i64 (cI 3 (atL h0_4 i6)), L.lst 25 (cX 4 (atL h0_4 i6))]))))), (.int IntKind.i64 (wrapI IntKind.i64 (h0_3 * Prod.snd (lenS (decX [L.int IntKind.i64 (cI 0 (atL h0_4 i6)), L.lst 48 (cX 1 (atL h0_4 i6)), L.int IntKind.i64 (cI 2 (atL h0_4 i6)), L.int IntKind.i64 (cI 3 (atL h0_4 i6)), L.lst 25 (cX 4 (atL h0_4 i6))])))))]))))
      (cond (h0_0 == 2)
       (cond (ltI most5 0)
        (G (rLens_q5 (wrapI IntKind.i64 (least4 + Prod.fst (lenS (decX [L.int IntKind.i64 (cI 0 (atL h0_4 i6)), L.lst 48 (cX 1 (atL h0_4 i6)), L.int IntKind.i64 (cI 2 (atL h0_4 i6)), L.int IntKind.i64 (cI 3 (atL h0_4 i6)), L.lst 25 (cX 4 (atL h0_4 i6))])))) (-1) (wrapI IntKind.i64 (i6 + 1)) h0_0 h0_1 h0_2 h0_3 h0_4))
        (cond (ltI (Prod.snd (lenS (decX [L.int IntKind.i64 (cI 0 (atL h0_4 i6)), L.lst 48 (cX 1 (atL h0_4 i6)), L.int IntKind.i64 (cI 2 (atL h0_4 i6)), L.int IntKind.i64 (cI 3 (atL h0_4 i6)), L.lst 25 (cX 4 (atL h0_4 i6))]))) 0)
         (G (rLens_q5 (wrapI IntKind.i64 (least4 + Prod.fst (lenS (decX [L.int IntKind.i64 (cI 0 (atL h0_4 i6)), L.lst 48 (cX 1 (atL h0_4 i6)), L.int IntKind.i64 (cI 2 (atL h0_4 i6)), L.int IntKind.i64 (cI 3 (atL h0_4 i6)), L.lst 25 (cX 4 (atL h0_4 i6))])))) (-1) (wrapI IntKind.i64 (i6 + 1)) h0_0 h0_1 h0_2 h0_3 h0_4))
         (cond (h0_0 == 2)
          (G (rLens_q5 (wrapI IntKind.i64 (least4 + Prod.fst (lenS (decX [L.int IntKind.i64 (cI 0 (atL h0_4 i6)), L.lst 48 (cX 1 (atL h0_4 i6)), L.int IntKind.i64 (cI 2 (atL h0_4 i6)), L.int IntKind.i64 (cI 3 (atL h0_4 i6)), L.lst 25 (cX 4 (atL h0_4 i6))])))) (wrapI IntKind.i64 (most5 + Prod.snd (lenS (decX [L.int IntKind.i64 (cI 0 (atL h0_4 i6)), L.lst 48 (cX 1 (atL h0_4 i6)), L.int IntKind.i64 (cI 2 (atL h0_4 i6)), L.int IntKind.i64 (cI 3 (atL h0_4 i6)), L.lst 25 (cX 4 (atL h0_4 i6))])))) (wrapI IntKind.i64 (i6 + 1)) h0_0 h0_1 h0_2 h0_3 h0_4))
          (cond (ltI most5 (Prod.snd (lenS (decX [L.int IntKind.i64 (cI 0 (atL h0_4 i6)), L.lst 48 (cX 1 (atL h0_4 i6)), L.int IntKind.i64 (cI 2 (atL h0_4 i6)), L.int IntKind.i64 (cI 3 (atL h0_4 i6)), L.lst 25 (cX 4 (atL h0_4 i6))]))))
           (G (rLens_q5 (wrapI IntKind.i64 (least4 + Prod.fst (lenS (decX [L.int IntKind.i64 (cI 0 (atL h0_4 i6)), L.lst 48 (cX 1 (atL h0_4 i6)), L.int IntKind.i64 (cI 2 (atL h0_4 i6)), L.int IntKind.i64 (cI 3 (atL h0_4 i6)), L.lst 25 (cX 4 (atL h0_4 i6))])))) (Prod.snd (lenS (decX [L.int IntKind.i64 (cI 0 (atL h0_4 i6)), L.lst 48 (cX 1 (atL h0_4 i6)), L.int IntKind.i64 (cI 2 (atL h0_4 i6)), L.int IntKind.i64 (cI 3 (atL h0_4 i6)), L.lst 25 (cX 4 (atL h0_4 i6))]))) (wrapI IntKind.i64 (i6 + 1)) h0_0 h0_1 h0_2 h0_3 h0_4))
           (G (rLens_q5 (wrapI IntKind.i64 (least4 + Prod.fst (lenS (decX [L.int IntKind.i64 (cI 0 (atL h0_4 i6)), L.lst 48 (cX 1 (atL h0_4 i6)), L.int IntKind.i64 (cI 2 (atL h0_4 i6)), L.int IntKind.i64 (cI 3 (atL h0_4 i6)), L.lst 25 (cX 4 (atL h0_4 i6))])))) most5 (wrapI IntKind.i64 (i6 + 1)) h0_0 h0_1 h0_2 h0_3 h0_4))))))
       (cond (i6 == 0)
        (cond (ltI most5 0)
         (G (rLens_q5 (Prod.fst (lenS (decX [L.int IntKind.i64 (cI 0 (atL h0_4 i6)), L.lst 48 (cX 1 (atL h0_4 i6)), L.int IntKind.i64 (cI 2 (atL h0_4 i6)), L.int IntKind.i64 (cI 3 (atL h0_4 i6)), L.lst 25 (cX 4 (atL h0_4 i6))]))) (-1) (wrapI IntKind.i64 (i6 + 1)) h0_0 h0_1 h0_2 h0_3 h0_4))
         (cond (ltI (Prod.snd (lenS (decX [L.int IntKind.i64 (cI 0 (atL h0_4 i6)), L.lst 48 (cX 1 (atL h0_4 i6)), L.int IntKind.i64 (cI 2 (atL h0_4 i6)), L.int IntKind.i64 (cI 3 (atL h0_4 i6)), L.lst 25 (cX 4 (atL h0_4 i6))]))) 0)
          (G (rLens_q5 (Prod.fst (lenS (decX [L.int IntKind.i64 (cI 0 (atL h0_4 i6)), L.lst 48 (cX 1 (atL h0_4 i6)), L.int IntKind.i64 (cI 2 (atL h0_4 i6)), L.int IntKind.i64 (cI 3 (atL h0_4 i6)), L.lst 25 (cX 4 (atL h0_4 i6))]))) (-1) (wrapI IntKind.i64 (i6 + 1)) h0_0 h0_1 h0_2 h0_3 h0_4))
          (cond (h0_0 == 2)
           (G (rLens_q5 (Prod.fst (lenS (decX [L.int IntKind.i64 (cI 0 (atL h0_4 i6)), L.lst 48 (cX 1 (atL h0_4 i6)), L.int IntKind.i64 (cI 2 (atL h0_4 i6)), L.int IntKind.i64 (cI 3 (atL h0_4 i6)), L.lst 25 (cX 4 (atL h0_4 i6))]))) (wrapI IntKind.i64 (most5 + Prod.snd (lenS (decX [L.int IntKind.i64 (cI 0 (atL h0_4 i6)), L.lst 48 (cX 1 (atL h0_4 i6)), L.int IntKind.i64 (cI 2 (atL h0_4 i6)), L.int IntKind.i64 (cI 3 (atL h0_4 i6)), L.lst 25 (cX 4 (atL h0_4 i6))])))) (wrapI IntKind.i64 (i6 + 1)) h0_0 h0_1 h0_2 h0_3 h0_4))
           (cond (ltI most5 (Prod.snd (lenS (decX [L.int IntKind.i64 (cI 0 (atL h0_4 i6)), L.lst 48 (cX 1 (atL h0_4 i6)), L.int IntKind.i64 (cI 2 (atL h0_4 i6)), L.int IntKind.i64 (cI 3 (atL h0_4 i6)), L.lst 25 (cX 4 (atL h0_4 i6))]))))
            (G (rLens_q5 (Prod.fst (lenS (decX [L.int IntKind.i64 (cI 0 (atL h0_4 i6)), L.lst 48 (cX 1 (atL h0_4 i6)), L.int IntKind.i64 (cI 2 (atL h0_4 i6)), L.int IntKind.i64 (cI 3 (atL h0_4 i6)), L.lst 25 (cX 4 (atL h0_4 i6))]))) (Prod.snd (lenS (decX [L.int IntKind.i64 (cI 0 (atL h0_4 i6)), L.lst 48 (cX 1 (atL h0_4 i6)), L.int IntKind.i64 (cI 2 (atL h0_4 i6)), L.int IntKind.i64 (cI 3 (atL h0_4 i6)), L.lst 25 (cX 4 (atL h0_4 i6))]))) (wrapI IntKind.i64 (i6 + 1)) h0_0 h0_1 h0_2 h0_3 h0_4))
            (G (rLens_q5 (Prod.fst (lenS (decX [L.int IntKind.i64 (cI 0 (atL h0_4 i6)), L.lst 48 (cX 1 (atL h0_4 i6)), L.int IntKind.i64 (cI 2 (atL h0_4 i6)), L.int IntKind.i64 (cI 3 (atL h0_4 i6)), L.lst 25 (cX 4 (atL h0_4 i6))]))) most5 (wrapI IntKind.i64 (i6 + 1)) h0_0 h0_1 h0_2 h0_3 h0_4))))))
        (cond (ltI (Prod.fst (lenS (decX [L.int IntKind.i64 (cI 0 (atL h0_4 i6)), L.lst 48 (cX 1 (atL h0_4 i6)), L.int IntKind.i64 (cI 2 (atL h0_4 i6)), L.int IntKind.i64 (cI 3 (atL h0_4 i6)), L.lst 25 (cX 4 (atL h0_4 i6))]))) least4)
         (cond (ltI most5 0)
          (G (rLens_q5 (Prod.fst (lenS (decX [L.int IntKind.i64 (cI 0 (atL h0_4 i6)), L.lst 48 (cX 1 (atL h0_4 i6)), L.int IntKind.i64 (cI 2 (atL h0_4 i6)), L.int IntKind.i64 (cI 3 (atL h0_4 i6)), L.lst 25 (cX 4 (atL h0_4 i6))]))) (-1) (wrapI IntKind.i64 (i6 + 1)) h0_0 h0_1 h0_2 h0_3 h0_4))
          (cond (ltI (Prod.snd (lenS (decX [L.int IntKind.i64 (cI 0 (atL h0_4 i6)), L.lst 48 (cX 1 (atL h0_4 i6)), L.int IntKind.i64 (cI 2 (atL h0_4 i6)), L.int IntKind.i64 (cI 3 (atL h0_4 i6)), L.lst 25 (cX 4 (atL h0_4 i6))]))) 0)
           (G (rLens_q5 (Prod.fst (lenS (decX [L.int IntKind.i64 (cI 0 (atL h0_4 i6)), L.lst 48 (cX 1 (atL h0_4 i6)), L.int IntKind.i64 (cI 2 (atL h0_4 i6)), L.int IntKind.i64 (cI 3 (atL h0_4 i6)), L.lst 25 (cX 4 (atL h0_4 i6))]))) (-1) (wrapI IntKind.i64 (i6 + 1)) h0_0 h0_1 h0_2 h0_3 h0_4))
           (cond (h0_0 == 2)
            (G (rLens_q5 (Prod.fst (lenS (decX [L.int IntKind.i64 (cI 0 (atL h0_4 i6)), L.lst 48 (cX 1 (atL h0_4 i6)), L.int IntKind.i64 (cI 2 (atL h0_4 i6)), L.int IntKind.i64 (cI 3 (atL h0_4 i6)), L.lst 25 (cX 4 (atL h0_4 i6))]))) (wrapI IntKind.i64 (most5 + Prod.snd (lenS (decX [L.int IntKind.i64 (cI 0 (atL h0_4 i6)), L.lst 48 (cX 1 (atL h0_4 i6)), L.int IntKind.i64 (cI 2 (atL h0_4 i6)), L.int IntKind.i64 (cI 3 (atL h0_4 i6)), L.lst 25 (cX 4 (atL h0_4 i6))])))) (wrapI IntKind.i64 (i6 + 1)) h0_0 h0_1 h0_2 h0_3 h0_4))
            (cond (ltI most5 (Prod.snd (lenS (decX [L.int IntKind.i64 (cI 0 (atL h0_4 i6)), L.lst 48 (cX 1 (atL h0_4 i6)), L.int IntKind.i64 (cI 2 (atL h0_4 i6)), L.int IntKind.i64 (cI 3 (atL h0_4 i6)), L.lst 25 (cX 4 (atL h0_4 i6))]))))
             (G (rLens_q5 (Prod.fst (lenS (decX [L.int IntKind.i64 (cI 0 (atL h0_4 i6)), L.lst 48 (cX 1 (atL h0_4 i6)), L.int IntKind.i64 (cI 2 (atL h0_4 i6)), L.int IntKind.i64 (cI 3 (atL h0_4 i6)), L.lst 25 (cX 4 (atL h0_4 i6))]))) (Prod.snd (lenS (decX [L.int IntKind.i64 (cI 0 (atL h0_4 i6)), L.lst 48 (cX 1 (atL h0_4 i6)), L.int IntKind.i64 (cI 2 (atL h0_4 i6)), L.int IntKind.i64 (cI 3 (atL h0_4 i6)), L.lst 25 (cX 4 (atL h0_4 i6))]))) (wrapI IntKind.i64 (i6 + 1)) h0_0 h0_1 h0_2 h0_3 h0_4))
             (G (rLens_q5 (Prod.fst (lenS (decX [L.int IntKind.i64 (cI 0 (atL h0_4 i6)), L.lst 48 (cX 1 (atL h0_4 i6)), L.int IntKind.i64 (cI 2 (atL h0_4 i6)), L.int IntKind.i64 (cI 3 (atL h0_4 i6)), L.lst 25 (cX 4 (atL h0_4 i6))]))) most5 (wrapI IntKind.i64 (i6 + 1)) h0_0 h0_1 h0_2 h0_3 h0_4))))))
         (cond (ltI most5 0)
          (G (rLens_q5 least4 (-1) (wrapI IntKind.i64 (i6 + 1)) h0_0 h0_1 h0_2 h0_3 h0_4))
          (cond (ltI (Prod.snd (lenS (decX [L.int IntKind.i64 (cI 0 (atL h0_4 i6)), L.lst 48 (cX 1 (atL h0_4 i6)), L.int IntKind.i64 (cI 2 (atL h0_4 i6)), L.int IntKind.i64 (cI 3 (atL h0_4 i6)), L.lst 25 (cX 4 (atL h0_4 i6))]))) 0)
           (G (rLens_q5 least4 (-1) (wrapI IntKind.i64 (i6 + 1)) h0_0 h0_1 h0_2 h0_3 h0_4))
           (cond (h0_0 == 2)
            (G (rLens_q5 least4 (wrapI IntKind.i64 (most5 + Prod.snd (lenS (decX [L.int IntKind.i64 (cI 0 (atL h0_4 i6)), L.lst 48 (cX 1 (atL h0_4 i6)), L.int IntKind.i64 (cI 2 (atL h0_4 i6)), L.int IntKind.i64 (cI 3 (atL h0_4 i6)), L.lst 25 (cX 4 (atL h0_4 i6))])))) (wrapI IntKind.i64 (i6 + 1)) h0_0 h0_1 h0_2 h0_3 h0_4))
            (cond (ltI most5 (Prod.snd (lenS (decX [L.int IntKind.i64 (cI 0 (atL h0_4 i6)), L.lst 48 (cX 1 (atL h0_4 i6)), L.int IntKind.i64 (cI 2 (atL h0_4 i6)), L.int IntKind.i64 (cI 3 (atL h0_4 i6)), L.lst 25 (cX 4 (atL h0_4 i6))]))))
             (G (rLens_q5 least4 (Prod.snd (lenS (decX [L.int IntKind.i64 (cI 0 (atL h0_4 i6)), L.lst 48 (cX 1 (atL h0_4 i6)), L.int IntKind.i64 (cI 2 (atL h0_4 i6)), L.int IntKind.i64 (cI 3 (atL h0_4 i6)), L.lst 25 (cX 4 (atL h0_4 i6))]))) (wrapI IntKind.i64 (i6 + 1)) h0_0 h0_1 h0_2 h0_3 h0_4))
             (G (rLens_q5 least4 most5 (wrapI IntKind.i64 (i6 + 1)) h0_0 h0_1 h0_2 h0_3 h0_4))))))))))
     none)
    none)
   (some [(.int IntKind.i64 (least4)), (.int IntKind.i64 (most5))])) := by kernel_rfl

end Go.Ab
namespace Go.Ab
open Go.Proofs

theorem nodeSL_zero : ∀ {l : List Rx}, nodeSL l = 0 → ∀ y ∈ l, nodeS y = 0
  | [], _, y, hy => by cases hy
  | x :: xs, h, y, hy => by
    rw [nodeSL] at h
    cases e : nodeS x != 0 with
    | true =>
      rw [e] at h
      have : nodeS x ≠ 0 := by simpa using e
      exact absurd h this
    | false =>
      rw [e] at h
      have e' : nodeS x = 0 := by simpa using e
      rcases List.mem_cons.1 hy with rfl | hy
      · exact e'
      · exact nodeSL_zero h y hy
theorem right_of {x : Rx} (h : nodeS x = 0) : fieldsP x ∧ ¬ cntP x ∧ ∀ y ∈ x.subs, nodeS y = 0 := by
  rw [nodeS_eq] at h
  split at h
  · omega
  · rename_i h1
    split at h
    · omega
    · rename_i h2
      exact ⟨Classical.not_not.1 h1, h2, nodeSL_zero h⟩
theorem right_beq {x : Rx} (h : nodeS x = 0) : (nodeS x == 0) = true := by rw [h]; rfl
theorem cX1r_of {xs : List (Nat × Con)} {n f : Nat} {g : Rx → List L} (hx : ∀ p ∈ xs, Holds p) (h : ∀ x : Rx, x.ok → x.lev ≤ n → nodeS x = 0 → Runs (cfg xs) (.enter f [.agg [.int .i64 x.kind, .lst 48 (encRs x.set), .int .i64 x.mn, .int .i64 x.mx, .lst 25 (x.subs.map encX)]] []) (g x)) : Holds (f, cX1r n g) :=
  con_run hx fun aa hp r h0 => by
    unfold cX1r at h0
    split at h0
    case h_2 => cases h0
    obtain ⟨g1, rfl⟩ := xo h0
    rw [Bool.and_eq_true] at g1
    obtain ⟨g1, g2⟩ := g1
    obtain ⟨x, rfl, rfl, rfl, rfl, rfl, ho, hl⟩ := isX5 g1
    rw [dec5] at g2 ⊢
    exact h x ho hl (by simpa using g2)
theorem lens_max {b hi : Int} : (bif ltI b hi then hi else b) = if hi > b then hi else b := by
  by_cases h : b < hi
  · rw [ev_lt_t h, if_pos h]; rfl
  · rw [ev_lt_f (by omega), if_neg h]; rfl
theorem total_loop {m : Nat} (k0 : Int) (a1 : List (List L)) (a2 a3 : Int) (a4 : List (List L)) (l : List Rx) (hl : l.length ≤ 1000000000000) (h1 : ∀ x ∈ l, x.ok ∧ x.lev ≤ m) (h2 : ∀ x ∈ l, nodeS x = 0) : ∀ (k i : Nat) (a b : Int), i + k = l.length →
    Runs (cfg [k_Lens m]) (total_q3 a b (l.map encX) (l.length : Nat) (i : Nat) k0 a1 a2 a3 a4) [.int .i64 (lenL k0 ((i : Int) == 0) a b (l.drop i)).1, .int .i64 (lenL k0 ((i : Int) == 0) a b (l.drop i)).2]
  | 0, i, a, b, h => by
    refine Runs.by (total_p3 · _ _ _ _ _ _ _ _ _ _ _) ?_
    simp (disch := omega) only [ev_lt_f, cond_false]
    rw [drop_end (by omega), lenL]
    exact .ret
  | k + 1, i, a, b, h => by
    refine Runs.by (total_p3 · _ _ _ _ _ _ _ _ _ _ _) ?_
    have hi : i < l.length := by omega
    have m1 := h1 _ (mem_getD hi)
    have m2 := h2 _ (mem_getD hi)
    simp (disch := omega) only [List.length_map, ev_lt_t, ev_le_t, cond_true, Bool.and_self, xs_at, el_enc, w64, isX_enc m1.1 m1.2, decX_enc, right_beq m2]
    have ih := total_loop k0 a1 a2 a3 a4 l hl h1 h2 k (i + 1) (lenA k0 ((i : Int) == 0) a (lenS (l.getD i default)).1) (lenB k0 b (lenS (l.getD i default)).2) (by omega)
    rw [drop_at default hi, lenL]
    have e : (((i + 1 : Nat) : Int) == 0) = false := by simp; omega
    rw [e] at ih
    revert ih
    generalize lenS (l.getD i default) = q
    obtain ⟨lo, hi'⟩ := q
    dsimp only
    intro ih
    unfold lenA lenB at ih ⊢
    generalize (k0 == 2) = c1 at ih ⊢
    generalize ((i : Int) == 0) = c2 at ih ⊢
    generalize ltI lo a = c3 at ih ⊢
    generalize ltI hi' 0 = c4 at ih ⊢
    generalize ltI b 0 = c5 at ih ⊢
    cases c1 <;> cases c2 <;> cases c3 <;> cases c4 <;> cases c5 <;> exact .go ih
theorem total_holds {n : Nat} (hL : Holds (k_Lens n)) : Holds (k_total n) := con_run (xs := [k_Lens n]) (hold1 hL hold0) fun aa hp r h => by
  split at h
  case h_2 => cases h
  obtain ⟨g, rfl⟩ := xo h
  rw [Bool.and_eq_true] at g
  obtain ⟨g1, g2⟩ := g
  obtain ⟨x, rfl, rfl, rfl, rfl, rfl, ho, hl⟩ := isX5 g1
  rw [dec5] at g2
  rw [decXs_enc]
  refine Runs.by (total_e · _ _ _ _ _ _) ?_
  have := total_loop x.kind (encRs x.set) x.mn x.mx (x.subs.map encX) x.subs (ok_subs ho) (subs_in ho hl) (right_of (by simpa using g2)).2.2 x.subs.length 0 0 0 (by omega)
  rw [List.length_map]
  exact .go this
theorem Lens_holds : ∀ n, Holds (k_Lens n)
  | 0 => con_run (xs := []) hold0 fun aa hp r h => by
    unfold cX1r at h
    dsimp only at h
    split at h
    case h_2 => cases h
    obtain ⟨g, rfl⟩ := xo h
    rw [Bool.and_eq_true] at g
    obtain ⟨x, _, _, _, _, _, _, hx⟩ := isX5 g.1
    exact (no_lev hx).elim
  | n + 1 => cX1r_of (xs := [k_Lens n, k_total n]) (hold1 (Lens_holds n) (hold1 (total_holds (Lens_holds n)) hold0)) fun x ho hl hr => by
    obtain ⟨hf, hc, hs⟩ := right_of hr
    refine Runs.by (Lens_e · _ _ _ _ _ _) ?_
    rw [lenS_eq x, dec5, is5 ho hl, right_beq hr, decXs_enc]
    obtain ⟨f1, f2, f3, f4, f5, f6, f7, f8⟩ := hf
    by_cases h1 : x.kind = 1
    · rw [ev_eq_t h1]; exact .ret
    · rw [ev_eq_f h1]
      by_cases h2 : x.kind = 2
      · have h4 : x.kind ≠ 4 := by omega
        rw [ev_eq_t h2, ev_eq_f h4]
        exact .ret
      · rw [ev_eq_f h2]
        by_cases h3 : x.kind = 3
        · have h4 : x.kind ≠ 4 := by omega
          rw [ev_eq_t h3, ev_eq_f h4]
          exact .ret
        · rw [ev_eq_f h3]
          by_cases h4 : x.kind = 4
          · have hl1 := f5 h4
            rw [ev_eq_t h4]
            obtain ⟨y, hy⟩ := List.length_eq_one_iff.1 hl1
            have hym : y ∈ x.subs := by rw [hy]; exact List.mem_singleton.2 rfl
            have m1 := subs_in ho hl y hym
            have ea : atL (x.subs.map encX) 0 = encX y := by rw [hy]; rfl
            rw [ea, el_enc, decX_enc, isX_enc m1.1 m1.2, right_beq (hs y hym), hy, lenR]
            simp only [List.map_cons, List.map_nil, List.length_cons, List.length_nil]
            generalize lenS y = q
            obtain ⟨lo, hi⟩ := q
            dsimp only
            cases ltI 0 hi <;> cases ltI x.mx 0 <;> cases ltI hi 0 <;> cases leI 0 x.mx <;> exact .ret
          · have hl0 : x.subs = [] := List.length_eq_zero_iff.1 (f7 ⟨h2, h3, h4⟩)
            rw [ev_eq_f h4, hl0, lenL]
            exact .ret
theorem rLens_loop {m : Nat} (k0 : Int) (hk : k0 ≠ 4) (a1 : List (List L)) (a2 a3 : Int) (l : List Rx) (hl : l.length ≤ 1000000000000) (h1 : ∀ x ∈ l, x.ok ∧ x.lev ≤ m) (h2 : ∀ x ∈ l, nodeS x = 0) : ∀ (k i : Nat) (a b : Int), i + k = l.length →
    Runs (cfg [k_rLens m]) (rLens_q5 a b (i : Nat) k0 a1 a2 a3 (l.map encX)) [.int .i64 (lenL k0 ((i : Int) == 0) a b (l.drop i)).1, .int .i64 (lenL k0 ((i : Int) == 0) a b (l.drop i)).2]
  | 0, i, a, b, h => by
    refine Runs.by (rLens_p5 · _ _ _ _ _ _ _ _ _) ?_
    simp (disch := omega) only [List.length_map, ev_lt_f, cond_false]
    rw [drop_end (by omega), lenL]
    exact .ret
  | k + 1, i, a, b, h => by
    refine Runs.by (rLens_p5 · _ _ _ _ _ _ _ _ _) ?_
    have hi : i < l.length := by omega
    have m1 := h1 _ (mem_getD hi)
    have m2 := h2 _ (mem_getD hi)
    simp (disch := omega) only [List.length_map, ev_lt_t, ev_le_t, cond_true, Bool.and_self, xs_at, el_enc, w64, isX_enc m1.1 m1.2, decX_enc, right_beq m2, ev_eq_f hk, cond_false]
    have ih := rLens_loop k0 hk a1 a2 a3 l hl h1 h2 k (i + 1) (lenA k0 ((i : Int) == 0) a (lenS (l.getD i default)).1) (lenB k0 b (lenS (l.getD i default)).2) (by omega)
    rw [drop_at default hi, lenL]
    have e : (((i + 1 : Nat) : Int) == 0) = false := by simp; omega
    rw [e] at ih
    revert ih
    generalize lenS (l.getD i default) = q
    obtain ⟨lo, hi'⟩ := q
    dsimp only
    intro ih
    unfold lenA lenB at ih ⊢
    rw [← lens_max] at ih ⊢
    generalize (k0 == 2) = c1 at ih ⊢
    generalize ((i : Int) == 0) = c2 at ih ⊢
    generalize ltI lo a = c3 at ih ⊢
    generalize ltI hi' 0 = c4 at ih ⊢
    generalize ltI b 0 = c5 at ih ⊢
    generalize ltI b hi' = c6 at ih ⊢
    cases c1 <;> cases c2 <;> cases c3 <;> cases c4 <;> cases c5 <;> cases c6 <;> exact .go ih
theorem rLens_holds : ∀ n, Holds (k_rLens n)
  | 0 => con_run (xs := []) hold0 fun aa hp r h => by
    unfold cX1r at h
    dsimp only at h
    split at h
    case h_2 => cases h
    obtain ⟨g, rfl⟩ := xo h
    rw [Bool.and_eq_true] at g
    obtain ⟨x, _, _, _, _, _, _, hx⟩ := isX5 g.1
    exact (no_lev hx).elim
  | n + 1 => cX1r_of (xs := [k_rLens n]) (hold1 (rLens_holds n) hold0) fun x ho hl hr => by
    obtain ⟨hf, hc, hs⟩ := right_of hr
    refine Runs.by (rLens_e · _ _ _ _ _ _) ?_
    rw [lenS_eq x]
    obtain ⟨f1, f2, f3, f4, f5, f6, f7, f8⟩ := hf
    by_cases h1 : x.kind = 1
    · rw [ev_eq_t h1]; exact .ret
    · rw [ev_eq_f h1]
      by_cases h4 : x.kind = 4
      · have hl1 := f5 h4
        rw [ev_eq_t h4]
        obtain ⟨y, hy⟩ := List.length_eq_one_iff.1 hl1
        have hym : y ∈ x.subs := by rw [hy]; exact List.mem_singleton.2 rfl
        have m1 := subs_in ho hl y hym
        refine .go (Runs.by (rLens_p5 · _ _ _ _ _ _ _ _ _) ?_)
        have ea : atL (x.subs.map encX) 0 = encX y := by rw [hy]; rfl
        rw [ea, el_enc, decX_enc, isX_enc m1.1 m1.2, right_beq (hs y hym), hy, lenR, ev_eq_t h4]
        simp only [List.map_cons, List.map_nil, List.length_cons, List.length_nil]
        generalize lenS y = q
        obtain ⟨lo, hi⟩ := q
        dsimp only
        rw [Int.mul_comm x.mn lo, Int.mul_comm x.mx hi]
        by_cases e0 : hi = 0
        · subst e0
          rw [show wrapI .i64 (0 * x.mx) = 0 from by rw [Int.zero_mul]; exact w64 (by omega) (by omega)]
          cases ltI x.mx 0 <;> cases leI 0 x.mx <;> exact .ret
        · by_cases e1 : hi < 0
          · rw [ev_eq_f e0, ev_lt_t e1, ev_lt_f (a := 0) (b := hi) (by omega)]
            exact .ret
          · rw [ev_eq_f e0, ev_lt_f (a := hi) (b := 0) (by omega), ev_lt_t (a := 0) (b := hi) (by omega)]
            by_cases e2 : x.mx < 0
            · rw [ev_lt_t e2]; exact .ret
            · rw [ev_lt_f (a := x.mx) (b := 0) (by omega), ev_le_t (a := 0) (b := x.mx) (by omega)]; exact .ret
      · rw [ev_eq_f h4]
        exact .go (by simpa using rLens_loop (m := n) x.kind h4 (encRs x.set) x.mn x.mx x.subs (ok_subs ho) (subs_in ho hl) hs x.subs.length 0 0 0 (by omega))
end Go.Ab
namespace Go.Ab
open Go.Proofs

/-- The array of 256 bits. -/
def getB (cs : List L) (j : Nat) : Bool := (cs.getD j .any).toBool
noncomputable def isB (cs : List L) : Bool := open Classical in decide (∃ f : Nat → Bool, cs = arrB f 256)
theorem isB_arr (f : Nat → Bool) : isB (arrB f 256) = true := by
  unfold isB
  classical exact decide_eq_true ⟨f, rfl⟩
theorem isB_of {cs : List L} (h : isB cs = true) : ∃ f : Nat → Bool, cs = arrB f 256 := by
  unfold isB at h
  classical exact of_decide_eq_true h
theorem getB_arr (f : Nat → Bool) {j : Nat} (h : j < 256) : getB (arrB f 256) j = f j := by
  have := arrGet_eq (f := f) h
  unfold arrGet at this
  unfold getB
  rw [this]; rfl
/-- The ranges of the bytes below 'n', each as long as it can be. -/
def stepR (out : List (UInt8 × UInt8)) (i : Nat) : List (UInt8 × UInt8) :=
  match out.getLast? with
  | some q => if q.2.toNat + 1 = i then out.dropLast ++ [(q.1, UInt8.ofNat i)] else out ++ [(UInt8.ofNat i, UInt8.ofNat i)]
  | none => [(UInt8.ofNat i, UInt8.ofNat i)]
def canR (f : Nat → Bool) : Nat → List (UInt8 × UInt8)
  | 0 => []
  | n + 1 => if f n then stepR (canR f n) n else canR f n
def isKB (ks : List K) : Bool := Nat.beq ks.length 256 && ks.all fun k => match k with | .bool => true | _ => false
theorem isKB_of {ks : List K} (h : isKB ks = true) : ks = List.replicate 256 .bool := by
  unfold isKB at h
  rw [Bool.and_eq_true, List.all_eq_true] at h
  refine List.eq_replicate_iff.2 ⟨Nat.eq_of_beq_eq_true h.1, fun k hk => ?_⟩
  have := h.2 k hk
  cases k <;> simp at this ⊢
noncomputable def k_badd : Nat × Con := (n_regex_bytes_add, fun
  | [.lf (.ptr 0 0), .lf (.int .u8 lo), .lf (.int .u8 hi)], [.box ks cs] => some (isKB ks && (isB cs && (leI 0 lo && (leI lo 255 && (leI 0 hi && leI hi 255)))), arrB (fun j => getB cs j || (leI lo (j : Nat) && leI (j : Nat) hi)) 256)
  | _, _ => none)
noncomputable def k_of : Nat × Con := (n_regex_of, fun
  | [.lf (.lst 48 xs)], [] => some (isRs xs, arrB (fun j => hasI (decRs xs) (j : Nat)) 256)
  | _, _ => none)
noncomputable def k_branges : Nat × Con := (n_regex_bytes_ranges, fun
  | [.lf (.ptr 0 0)], [.box ks cs] => some (isKB ks && isB cs, [.lst 48 (encRs (canR (getB cs) 256))] ++ arrB (fun j => getB cs j) 256)
  | _, _ => none)
noncomputable def k_Ranges : Nat × Con := (n_codesearchref08_Ranges, fun
  | [.lf (.lst 48 xs), .lf (.bool b)], [] => some (isRs xs, [.lst 48 (encRs (canR (fun j => !(hasI (decRs xs) (j : Nat) == b)) 256))])
  | _, _ => none)
end Go.Ab
namespace Go.Ab
open Go.Proofs
/-! (*codesearch/regex.bytes).add -/
noncomputable def badd_q1 (hi2 : Int) (c6 : Int) (h0 : Nat → Bool) : Req := .point 61 [(some ((List.replicate 256 .bool), (List.replicate 256 .any)))] (todoAt Tryd.prog 61 1) ⟨[(.lf (.ptr 0 0)), an, (.lf (.int IntKind.u8 hi2)), an, an, an, (.lf (.int IntKind.i64 c6)), an, an, an, an, an, an, an, an, an, an, an, an], [(.box (List.replicate 256 .bool) (arrB h0 256))]⟩
theorem badd_e (G : Req → R) (lo1 : Int) (hi2 : Int) (f : Nat → Bool) : runB (cfg []) G (.enter 61 [(.lf (.ptr 0 0)), (.lf (.int IntKind.u8 (lo1))), (.lf (.int IntKind.u8 (hi2)))] [(.box (List.replicate 256 .bool) (arrB (fun j => f j) 256))]) =
  (G (badd_q1 hi2 (wrapI IntKind.i64 lo1) (fun j => f j))) := by kernel_rfl
theorem badd_p1 (G : Req → R) (hi2 : Int) (c6 : Int) (h0 : Nat → Bool) : runB (cfg []) G (badd_q1 hi2 c6 h0) =
  (cond (leI c6 (wrapI IntKind.i64 hi2))
   (cond (leI 0 c6 && ltI c6 (↑256 : Int))
    (G (badd_q1 hi2 (wrapI IntKind.i64 (c6 + 1)) (fun j => bif Nat.beq j (Int.toNat c6) then true else h0 j)))
    none)
   (some (arrB (fun j => h0 j) 256))) := by kernel_rfl

/-! (*codesearch/regex.bytes).ranges -/
noncomputable def branges_q3 (c4 : Int) (h0 : Nat → Bool) (h1 : List (List L)) : Req := .point 47 [(some ((List.replicate 256 .bool), (List.replicate 256 .any)))] (todoAt Tryd.prog 47 3) ⟨[(.lf (.ptr 0 0)), an, an, (.lf (.row 1)), (.lf (.int IntKind.i64 c4)), an, an, an, an, an, an, an, an, an, an, an, an, an, an, an, an, an, an, an, an, an, an, an, an, an, an, an, an, an, an, an, an, an], [(.box (List.replicate 256 .bool) (arrB h0 256)), (.row 48 h1 true)]⟩
noncomputable def branges_q7 (c4 : Int) (lo5 : Int) (h0 : Nat → Bool) (h1 : List (List L)) : Req := .point 47 [(some ((List.replicate 256 .bool), (List.replicate 256 .any)))] (todoAt Tryd.prog 47 7) ⟨[(.lf (.ptr 0 0)), an, an, (.lf (.row 1)), (.lf (.int IntKind.i64 c4)), (.lf (.int IntKind.i64 lo5)), an, an, an, an, an, an, an, an, an, an, an, an, an, an, an, an, an, an, an, an, an, an, an, an, an, an, an, an, an, an, an, an], [(.box (List.replicate 256 .bool) (arrB h0 256)), (.row 48 h1 true)]⟩
theorem branges_e (G : Req → R) (f : Nat → Bool) : runB (cfg []) G (.enter 47 [(.lf (.ptr 0 0))] [(.box (List.replicate 256 .bool) (arrB (fun j => f j) 256))]) =
  (G (branges_q3 0 (fun j => f j) [])) := by kernel_rfl
theorem branges_p3 (G : Req → R) (c4 : Int) (h0 : Nat → Bool) (h1 : List (List L)) : runB (cfg []) G (branges_q3 c4 h0 h1) =
  (cond (ltI c4 256)
   (cond (leI 0 c4 && ltI c4 (↑256 : Int))
    (cond (!L.toBool (arrGet (fun j => h0 j) 256 (0 + Int.toNat c4)))
     (G (branges_q3 (wrapI IntKind.i64 (c4 + 1)) (fun j => h0 j) h1))
     (G (branges_q7 c4 c4 (fun j => h0 j) h1)))
    none)
   (some ([(.lst 48 h1)] ++ arrB (fun j => h0 j) 256))) := by kernel_rfl
theorem branges_p7 (G : Req → R) (c4 : Int) (lo5 : Int) (h0 : Nat → Bool) (h1 : List (List L)) : runB (cfg []) G (branges_q7 c4 lo5 h0 h1) =
  (cond (ltI c4 255)
   (cond (leI 0 (wrapI IntKind.i64 (c4 + 1)) && ltI (wrapI IntKind.i64 (c4 + 1)) (↑256 : Int))
    (cond (L.toBool (arrGet (fun j => h0 j) 256 (0 + Int.toNat (wrapI IntKind.i64 (c4 + 1)))))
     (G (branges_q7 (wrapI IntKind.i64 (c4 + 1)) lo5 (fun j => h0 j) h1))
     (cond (roomN (List.length h1 + 1) 2)
      (G (branges_q3 (wrapI IntKind.i64 (c4 + 1)) (fun j => h0 j) (h1 ++ [[L.int IntKind.u8 (wrapI IntKind.u8 lo5), L.int IntKind.u8 (wrapI IntKind.u8 c4)]])))
      none))
    none)
   (cond (roomN (List.length h1 + 1) 2)
    (G (branges_q3 (wrapI IntKind.i64 (c4 + 1)) (fun j => h0 j) (h1 ++ [[L.int IntKind.u8 (wrapI IntKind.u8 lo5), L.int IntKind.u8 (wrapI IntKind.u8 c4)]])))
    none)) := by kernel_rfl

/-! codesearch/regex.of -/
noncomputable def bof_q3 (x6 : List (List L)) (x7 : Int) (x8 : Int) (h0 : Nat → Bool) (h1 : Nat → Bool) : Req := .point 46 [] (todoAt Tryd.prog 46 3) ⟨[an, an, (.lf (.ptr 0 0)), (.lf (.ptr 1 0)), an, an, (.lf (.lst 48 x6)), (.lf (.int IntKind.i64 x7)), (.lf (.int IntKind.i64 x8)), an, an, an, an, an, an, an, an, an, an], [(.box (List.replicate 256 .bool) (arrB h0 256)), (.box (List.replicate 256 .bool) (arrB h1 256))]⟩
theorem bof_e (G : Req → R) (l0 : List (List L)) : runB (cfg [k_badd]) G (.enter 46 [(.lf (.lst 48 l0))] []) =
  (G (bof_q3 l0 ((↑(List.length l0) : Int)) 0 (fun j => false) (fun j => false))) := by kernel_rfl
theorem bof_p3 (G : Req → R) (x6 : List (List L)) (x7 : Int) (x8 : Int) (h0 : Nat → Bool) (h1 : Nat → Bool) : runB (cfg [k_badd]) G (bof_q3 x6 x7 x8 h0 h1) =
  (cond (ltI x8 x7)
   (cond (leI 0 x8 && ltI x8 (↑(List.length x6) : Int))
    (cond (isB (arrB (fun j => h1 j) 256) && (leI 0 (cI 0 (atL x6 x8)) && (leI (cI 0 (atL x6 x8)) 255 && (leI 0 (cI 1 (atL x6 x8)) && leI (cI 1 (atL x6 x8)) 255))))
     (G (bof_q3 x6 x7 (wrapI IntKind.i64 (x8 + 1)) (fun j => h0 j) (fun j => getB (arrB (fun j => h1 j) 256) j || leI (cI 0 (atL x6 x8)) (↑j : Int) && leI (↑j : Int) (cI 1 (atL x6 x8)))))
     none)
    none)
   (some (arrB (fun j => h1 j) 256))) := by kernel_rfl

/-! codesearch/codesearchref08.Ranges -/
noncomputable def rRanges_q3 (set0 : List (List L)) (other1 : Bool) (i6 : Int) (h0 : List (List L)) : Req := .point 48 [] (todoAt Tryd.prog 48 3) ⟨[(.lf (.lst 48 set0)), (.lf (.bool other1)), an, an, an, (.lf (.row 0)), (.lf (.int IntKind.i64 i6)), an, an, an, an, an, an, an, an, an, an, an, an, an, an, an, an, an, an, an, an, an, an, an, an, an, an, an, an, an, an, an, an, an, an, an, an, an, an, an, an, an, an, an], [(.row 48 h0 true)]⟩
theorem rRanges_e (G : Req → R) (set0 : List (List L)) (other1 : Bool) : runB (cfg [k_rHas]) G (.enter 48 [(.lf (.lst 48 set0)), (.lf (.bool (other1)))] []) =
  (G (rRanges_q3 set0 other1 0 [])) := by kernel_rfl
theorem rRanges_p3 (G : Req → R) (set0 : List (List L)) (other1 : Bool) (i6 : Int) (h0 : List (List L)) : runB (cfg [k_rHas]) G (rRanges_q3 set0 other1 i6 h0) =
  (cond (ltI i6 256)
   (cond (isRs set0)
    (cond (hasI (decRs set0) (wrapI IntKind.u8 i6) == other1)
     (G (rRanges_q3 set0 other1 (wrapI IntKind.i64 (i6 + 1)) h0))
     (cond (ltI 0 (↑(List.length h0) : Int))
      (cond (leI 0 (wrapI IntKind.i64 ((↑(List.length h0) : Int) - 1)) && ltI (wrapI IntKind.i64 ((↑(List.length h0) : Int) - 1)) (↑(List.length h0) : Int))
       (cond (wrapI IntKind.i64 (cI 1 (atL h0 (wrapI IntKind.i64 ((↑(List.length h0) : Int) - 1)))) == wrapI IntKind.i64 (i6 - 1))
        (cond (leI 0 (wrapI IntKind.i64 ((↑(List.length h0) : Int) - 1)) && ltI (wrapI IntKind.i64 ((↑(List.length h0) : Int) - 1)) (↑(List.length h0) : Int))
         (G (rRanges_q3 set0 other1 (wrapI IntKind.i64 (i6 + 1)) (List.set h0 (Int.toNat (wrapI IntKind.i64 ((↑(List.length h0) : Int) - 1))) (splice 1 [L.int IntKind.u8 (wrapI IntKind.u8 i6)] (atL h0 (wrapI IntKind.i64 ((↑(List.length h0) : Int) - 1)))))))
         none)
        (cond (roomN (List.length h0 + 1) 2)
         (G (rRanges_q3 set0 other1 (wrapI IntKind.i64 (i6 + 1)) (h0 ++ [[L.int IntKind.u8 (wrapI IntKind.u8 i6), L.int IntKind.u8 (wrapI IntKind.u8 i6)]])))
         none))
       none)
      (cond (roomN (List.length h0 + 1) 2)
       (G (rRanges_q3 set0 other1 (wrapI IntKind.i64 (i6 + 1)) (h0 ++ [[L.int IntKind.u8 (wrapI IntKind.u8 i6), L.int IntKind.u8 (wrapI IntKind.u8 i6)]])))
       none)))
    none)
   (some [(.lst 48 h0)])) := by kernel_rfl

end Go.Ab
namespace Go.Ab
open Go.Proofs

theorem stepR_nil (i : Nat) : stepR [] i = [(UInt8.ofNat i, UInt8.ofNat i)] := rfl
theorem stepR_snoc (l : List (UInt8 × UInt8)) (q : UInt8 × UInt8) (i : Nat) : stepR (l ++ [q]) i = if q.2.toNat + 1 = i then l ++ [(q.1, UInt8.ofNat i)] else l ++ [q] ++ [(UInt8.ofNat i, UInt8.ofNat i)] := by
  unfold stepR
  simp
theorem snoc_cases {α : Type} (l : List α) : l = [] ∨ ∃ m q, l = m ++ [q] := by
  rcases List.eq_nil_or_concat l with h | ⟨m, q, h⟩
  · exact .inl h
  · exact .inr ⟨m, q, by simpa using h⟩
theorem u8_nat {i : Nat} (h : i < 256) : (UInt8.ofNat i).toNat = i := by
  simp [UInt8.toNat_ofNat']
  omega
theorem stepR_len (l : List (UInt8 × UInt8)) (i : Nat) : (stepR l i).length ≤ l.length + 1 := by
  rcases snoc_cases l with rfl | ⟨m, q, rfl⟩
  · rw [stepR_nil]; simp
  · rw [stepR_snoc]; split <;> simp
theorem canR_len (f : Nat → Bool) : ∀ n, (canR f n).length ≤ n
  | 0 => Nat.le_refl _
  | n + 1 => by
    rw [canR]
    have := canR_len f n
    split
    · have := stepR_len (canR f n) n; omega
    · omega
/-- The last range ends below. -/
theorem canR_last (f : Nat → Bool) : ∀ n, n ≤ 256 → ∀ m q, canR f n = m ++ [q] → q.2.toNat < n
  | 0, _, m, q, h => by simp [canR] at h
  | n + 1, hn, m, q, h => by
    rw [canR] at h
    split at h
    · rcases snoc_cases (canR f n) with e | ⟨m', q', e⟩
      · rw [e, stepR_nil] at h
        have h2 : [(UInt8.ofNat n, UInt8.ofNat n)] = m ++ [q] := h
        have := congrArg List.getLast? h2
        simp at this
        rw [← this]
        show (UInt8.ofNat n).toNat < n + 1
        rw [u8_nat (by omega)]; omega
      · rw [e, stepR_snoc] at h
        split at h
        · have := congrArg List.getLast? h
          simp at this
          rw [← this]
          show (UInt8.ofNat n).toNat < n + 1
          rw [u8_nat (by omega)]; omega
        · have := congrArg List.getLast? h
          simp at this
          rw [← this]
          show (UInt8.ofNat n).toNat < n + 1
          rw [u8_nat (by omega)]; omega
    · have := canR_last f n (by omega) m q h; omega
theorem encRs_snoc (l : List (UInt8 × UInt8)) (a b : Nat) (ha : a < 256) (hb : b < 256) : encRs l ++ [[L.int .u8 (a : Int), L.int .u8 (b : Int)]] = encRs (l ++ [(UInt8.ofNat a, UInt8.ofNat b)]) := by
  unfold encRs
  rw [List.map_append]
  simp only [List.map_cons, List.map_nil, u8_nat ha, u8_nat hb]

/-! ### add -/
theorem badd_loop (hi : Int) (hlo : 0 ≤ hi) (hhi : hi ≤ 255) : ∀ (k : Nat) (c : Int) (f : Nat → Bool), 0 ≤ c → c ≤ 256 → c + k = max c (hi + 1) →
    Runs (cfg []) (badd_q1 hi c f) (arrB (fun j => f j || (leI c (j : Nat) && leI (j : Nat) hi)) 256)
  | 0, c, f, h0, hc, h => by
    refine Runs.by (badd_p1 · _ _ _) ?_
    rw [w64 (by omega) (by omega), ev_le_f (by omega)]
    refine .ret' (arrB_congr fun j hj => ?_)
    by_cases e : c ≤ (j : Int)
    · rw [ev_le_f (a := (j : Int)) (b := hi) (by omega)]; simp
    · rw [ev_le_f (a := c) (by omega)]; simp
  | k + 1, c, f, h0, hc, h => by
    refine Runs.by (badd_p1 · _ _ _) ?_
    rw [w64 (n := hi) (by omega) (by omega), w64 (n := c + 1) (by omega) (by omega), ev_le_t (a := c) (b := hi) (by omega), ev_le_t h0, ev_lt_t (a := c) (b := 256) (by omega)]
    have ih := badd_loop hi hlo hhi k (c + 1) (fun j => bif Nat.beq j (Int.toNat c) then true else f j) (by omega) (by omega) (by omega)
    refine .go ?_
    have e : arrB (fun j => (bif Nat.beq j (Int.toNat c) then true else f j) || (leI (c + 1) (j : Nat) && leI (j : Nat) hi)) 256 = arrB (fun j => f j || (leI c (j : Nat) && leI (j : Nat) hi)) 256 := by
      refine arrB_congr fun j hj => ?_
      by_cases e : j = c.toNat
      · rw [e, Nat.beq_refl, ev_le_t (a := c) (by omega), ev_le_t (b := hi) (by omega)]; simp
      · have e1 : Nat.beq j c.toNat = false := by
          cases h : Nat.beq j c.toNat with
          | false => rfl
          | true => exact absurd (Nat.eq_of_beq_eq_true h) e
        rw [e1]
        simp only [cond_false]
        by_cases e2 : c ≤ (j : Int)
        · rw [ev_le_t e2, ev_le_t (a := c + 1) (by omega)]
        · rw [ev_le_f (a := c) (by omega), ev_le_f (a := c + 1) (by omega)]
    rw [← e]
    exact ih
theorem badd_holds : Holds k_badd := con_run (xs := []) hold0 fun aa hp r h => by
  split at h
  case h_2 => cases h
  rename_i lo hi ks cs
  obtain ⟨g, rfl⟩ := xo h
  simp only [Bool.and_eq_true] at g
  obtain ⟨gk, g1, g2, g3, g4, g5⟩ := g
  obtain ⟨f, rfl⟩ := isB_of g1
  have h2 := leI_t g2
  have h3 := leI_t g3
  have h4 := leI_t g4
  have h5 := leI_t g5
  have hl := badd_loop hi h4 h5 (max lo (hi + 1) - lo).toNat lo f h2 (by omega) (by omega)
  have e : arrB (fun j => getB (arrB f 256) j || (leI lo (j : Nat) && leI (j : Nat) hi)) 256 = arrB (fun j => f j || (leI lo (j : Nat) && leI (j : Nat) hi)) 256 := arrB_congr fun j hj => by rw [getB_arr f hj]
  rw [e]
  have hks := isKB_of gk
  subst hks
  refine Runs.by (badd_e · lo hi f) ?_
  rw [w64 (n := lo) (by omega) (by omega)]
  exact .go hl

/-! ### the ranges -/
theorem step_fresh {o : List (UInt8 × UInt8)} {i : Nat} (h : ∀ m q, o = m ++ [q] → q.2.toNat + 1 ≠ i) : stepR o i = o ++ [(UInt8.ofNat i, UInt8.ofNat i)] := by
  rcases snoc_cases o with rfl | ⟨m, q, rfl⟩
  · rfl
  · rw [stepR_snoc, if_neg (h m q rfl)]
theorem br (f : Nat → Bool) : ∀ k : Nat,
    (∀ c (o : List (UInt8 × UInt8)), c + k = 256 → canR f c = o → (c < 256 → f c = true → ∀ m q, o = m ++ [q] → q.2.toNat + 1 ≠ c) →
      Runs (cfg []) (branges_q3 (c : Nat) f (encRs o)) ([.lst 48 (encRs (canR f 256))] ++ arrB f 256)) ∧
    (∀ c lo (o : List (UInt8 × UInt8)), c + k = 256 → c < 256 → lo ≤ c → canR f (c + 1) = o ++ [(UInt8.ofNat lo, UInt8.ofNat c)] →
      Runs (cfg []) (branges_q7 (c : Nat) (lo : Nat) f (encRs o)) ([.lst 48 (encRs (canR f 256))] ++ arrB f 256))
  | 0 => by
    refine ⟨fun c o h ho hn => ?_, fun c lo o h h1 => by omega⟩
    refine Runs.by (branges_p3 · _ _ _) ?_
    simp (disch := omega) only [ev_lt_f, cond_false]
    have : c = 256 := by omega
    subst this
    rw [ho]
    exact .ret
  | k + 1 => by
    obtain ⟨ihA, ihB⟩ := br f k
    have hB : ∀ c lo (o : List (UInt8 × UInt8)), c + (k + 1) = 256 → c < 256 → lo ≤ c → canR f (c + 1) = o ++ [(UInt8.ofNat lo, UInt8.ofNat c)] →
        Runs (cfg []) (branges_q7 (c : Nat) (lo : Nat) f (encRs o)) ([.lst 48 (encRs (canR f 256))] ++ arrB f 256) := fun c lo o h hc hlo ho => by
      refine Runs.by (branges_p7 · _ _ _ _) ?_
      have hlen := canR_len f (c + 1)
      rw [ho, List.length_append] at hlen
      simp only [List.length_singleton] at hlen
      have hroom : roomN ((encRs o).length + 1) 2 = true := by rw [encRs_len]; exact roomN_t (by omega) (by omega)
      have hpush : encRs o ++ [[L.int .u8 (wrapI .u8 (lo : Nat)), L.int .u8 (wrapI .u8 (c : Nat))]] = encRs (canR f (c + 1)) := by
        rw [w8 (by omega) (by omega), w8 (by omega) (by omega), encRs_snoc _ _ _ (by omega) hc, ho]
      rw [hpush, hroom, w64 (n := (c : Int) + 1) (by omega) (by omega)]
      have e1 : (c : Int) + 1 = ((c + 1 : Nat) : Int) := by omega
      rw [e1]
      by_cases hc2 : c < 255
      · rw [ev_lt_t (a := (c : Int)) (by omega), ev_le_t (a := 0) (by omega), ev_lt_t (a := ((c + 1 : Nat) : Int)) (by omega)]
        have e2 : 0 + Int.toNat ((c + 1 : Nat) : Int) = c + 1 := by omega
        rw [e2, arrGet_eq (by omega)]
        simp only [L.toBool, Bool.and_self, cond_true]
        cases hf : f (c + 1) with
        | true =>
          refine .go (ihB (c + 1) lo o (by omega) (by omega) (by omega) ?_)
          rw [canR, if_pos hf, ho, stepR_snoc, if_pos]
          rw [u8_nat hc]
        | false =>
          exact .go (ihA (c + 1) _ (by omega) rfl fun _ h => by rw [hf] at h; cases h)
      · rw [ev_lt_f (a := (c : Int)) (by omega)]
        simp only [cond_true, cond_false]
        refine .go (ihA (c + 1) _ (by omega) rfl fun h' => by omega)
    refine ⟨fun c o h ho hn => ?_, hB⟩
    refine Runs.by (branges_p3 · _ _ _) ?_
    rw [ev_lt_t (a := (c : Int)) (b := 256) (by omega), ev_le_t (a := 0) (by omega), w64 (n := (c : Int) + 1) (by omega) (by omega)]
    have e2 : 0 + Int.toNat (c : Int) = c := by omega
    rw [e2, arrGet_eq (by omega)]
    simp only [L.toBool, Bool.and_self, cond_true]
    cases hf : f c with
    | true =>
      refine .go (hB c c o (by omega) (by omega) (Nat.le_refl _) ?_)
      rw [canR, if_pos hf, ho]
      exact step_fresh (hn (by omega) hf)
    | false =>
      refine .go (ihA (c + 1) o (by omega) ?_ fun _ _ m q hq => ?_)
      · rw [canR, hf]; simpa using ho
      · have := canR_last f c (by omega) m q (by rw [ho]; exact hq)
        omega
theorem branges_holds : Holds k_branges := con_run (xs := []) hold0 fun aa hp r h => by
  split at h
  case h_2 => cases h
  rename_i ks cs
  obtain ⟨g, rfl⟩ := xo h
  rw [Bool.and_eq_true] at g
  obtain ⟨f, rfl⟩ := isB_of g.2
  have hks := isKB_of g.1
  subst hks
  have hc : ∀ n, n ≤ 256 → canR (getB (arrB f 256)) n = canR f n := fun n => by
    induction n with
    | zero => intro _; rfl
    | succ n ih => intro hn; rw [canR, canR, ih (by omega), getB_arr f (by omega)]
  rw [hc 256 (Nat.le_refl _), arrB_congr (g := f) fun i hi => getB_arr f hi]
  refine Runs.by (branges_e · f) ?_
  exact .go ((br f 256).1 0 [] rfl rfl fun _ _ m q h => by simp at h)

/-! ### the union of ranges -/
theorem bof_loop (l : List (UInt8 × UInt8)) (hl : l.length ≤ 1000000000000) (h0 : Nat → Bool) : ∀ (k i : Nat) (f : Nat → Bool), i + k = l.length →
    Runs (cfg [k_badd]) (bof_q3 (encRs l) (l.length : Nat) (i : Nat) h0 f) (arrB (fun j => f j || hasI (l.drop i) (j : Nat)) 256)
  | 0, i, f, h => by
    refine Runs.by (bof_p3 · _ _ _ _ _) ?_
    simp (disch := omega) only [ev_lt_f, cond_false]
    rw [drop_end (by omega)]
    exact .ret' (arrB_congr fun j hj => by simp [hasI])
  | k + 1, i, f, h => by
    refine Runs.by (bof_p3 · _ _ _ _ _) ?_
    have hi : i < l.length := by omega
    have b1 := u8_hi (l.getD i (0, 0)).1
    have b2 := u8_hi (l.getD i (0, 0)).2
    simp (disch := omega) only [encRs_len, ev_lt_t, ev_le_t, cond_true, Bool.and_self, rs_at, cI0, cI1, w64, isB_arr]
    have ih := bof_loop l hl h0 k (i + 1) (fun j => getB (arrB (fun j => f j) 256) j || leI ((l.getD i (0, 0)).1.toNat : Int) (j : Nat) && leI (j : Nat) ((l.getD i (0, 0)).2.toNat : Int)) (by omega)
    have e : arrB (fun j => (getB (arrB (fun j => f j) 256) j || leI ((l.getD i (0, 0)).1.toNat : Int) (j : Nat) && leI (j : Nat) ((l.getD i (0, 0)).2.toNat : Int)) || hasI (l.drop (i + 1)) (j : Nat)) 256 = arrB (fun j => f j || hasI (l.drop i) (j : Nat)) 256 := by
      refine arrB_congr fun j hj => ?_
      rw [getB_arr _ hj, drop_at (0, 0) hi]
      unfold hasI
      rw [List.any_cons, Bool.or_assoc]
    rw [e] at ih
    exact .go ih
theorem bof_holds : Holds k_of := con_run (xs := [k_badd]) (hold1 badd_holds hold0) fun aa hp r h => by
  split at h
  case h_2 => cases h
  rename_i xs
  obtain ⟨g, rfl⟩ := xo h
  obtain ⟨l, rfl, hl⟩ := isRs_of g
  rw [decRs_enc]
  refine Runs.by (bof_e · _) ?_
  rw [encRs_len]
  have := bof_loop l hl (fun _ => false) l.length 0 (fun _ => false) (by omega)
  rw [List.drop_zero] at this
  exact .go this

/-! ### the reference's ranges -/
theorem rRanges_loop (l : List (UInt8 × UInt8)) (hl : l.length ≤ 1000000000000) (b : Bool) : ∀ (k i : Nat), i + k = 256 →
    Runs (cfg [k_rHas]) (rRanges_q3 (encRs l) b (i : Nat) (encRs (canR (fun j => !(hasI l (j : Nat) == b)) i))) [.lst 48 (encRs (canR (fun j => !(hasI l (j : Nat) == b)) 256))]
  | 0, i, h => by
    refine Runs.by (rRanges_p3 · _ _ _ _) ?_
    simp (disch := omega) only [ev_lt_f, cond_false]
    have : i = 256 := by omega
    subst this
    exact .ret
  | k + 1, i, h => by
    refine Runs.by (rRanges_p3 · _ _ _ _) ?_
    have hi : i < 256 := by omega
    have ih := rRanges_loop l hl b k (i + 1) (by omega)
    have hlen := canR_len (fun j => !(hasI l (j : Nat) == b)) i
    rw [canR] at ih
    revert ih hlen
    generalize canR (fun j => !(hasI l (j : Nat) == b)) i = o
    intro ih hlen
    rw [ev_lt_t (a := (i : Int)) (by omega), isRs_enc hl, decRs_enc, w8 (n := (i : Int)) (by omega) (by omega), w64 (n := (i : Int) + 1) (by omega) (by omega)]
    rw [show ((i + 1 : Nat) : Int) = (i : Int) + 1 from by omega] at ih
    cases hb : (hasI l (i : Nat) == b) with
    | true =>
      rw [hb] at ih
      exact .go ih
    | false =>
      rw [hb] at ih
      simp only [Bool.not_false, if_true] at ih
      simp only [cond_true, cond_false, encRs_len]
      have hroom : roomN (o.length + 1) 2 = true := roomN_t (by omega) (by omega)
      rw [hroom]
      rcases snoc_cases o with rfl | ⟨m, q, rfl⟩
      · rw [stepR_nil] at ih
        rw [encRs_snoc _ _ _ hi hi]
        exact .go ih
      · simp only [List.length_append, List.length_singleton] at hlen ⊢
        have b1 := u8_hi q.2
        rw [stepR_snoc] at ih
        rw [ev_lt_t (a := 0) (by omega), w64 (n := ((m.length + 1 : Nat) : Int) - 1) (by omega) (by omega), ev_le_t (a := 0) (by omega), ev_lt_t (a := ((m.length + 1 : Nat) : Int) - 1) (by omega)]
        rw [show ((m.length + 1 : Nat) : Int) - 1 = ((m.length : Nat) : Int) from by omega]
        have ha : atL (encRs (m ++ [q])) (m.length : Nat) = [.int .u8 q.1.toNat, .int .u8 q.2.toNat] := by
          rw [rs_at _ (by simp)]
          simp
        rw [ha, cI1, w64 (n := (q.2.toNat : Int)) (by omega) (by omega), w64 (n := (i : Int) - 1) (by omega) (by omega)]
        simp only [cond_true, Bool.and_self, Int.toNat_natCast]
        by_cases e : q.2.toNat + 1 = i
        · rw [if_pos e] at ih
          rw [ev_eq_t (a := (q.2.toNat : Int)) (by omega)]
          have hs : (encRs (m ++ [q])).set m.length (splice 1 [L.int .u8 (i : Nat)] [L.int .u8 q.1.toNat, L.int .u8 q.2.toNat]) = encRs (m ++ [(q.1, UInt8.ofNat i)]) := by
            unfold encRs
            rw [List.map_append, List.map_append]
            simp only [List.map_cons, List.map_nil, u8_nat hi]
            rw [List.set_append_right _ _ (by simp)]
            simp [splice]
          rw [hs]
          exact .go ih
        · rw [if_neg e] at ih
          rw [ev_eq_f (a := (q.2.toNat : Int)) (by omega)]
          rw [encRs_snoc _ _ _ hi hi]
          exact .go ih
theorem rRanges_holds : Holds k_Ranges := con_run (xs := [k_rHas]) (hold1 rHas_holds hold0) fun aa hp r h => by
  split at h
  case h_2 => cases h
  rename_i xs b
  obtain ⟨g, rfl⟩ := xo h
  obtain ⟨l, rfl, hl⟩ := isRs_of g
  rw [decRs_enc]
  refine Runs.by (rRanges_e · _ _) ?_
  exact .go (rRanges_loop l hl b 256 0 rfl)
end Go.Ab
namespace Go.Ab
open Go.Proofs

/-- Both cases of a letter. -/
def foldB (f : Nat → Bool) (j : Nat) : Bool :=
  if 97 ≤ j ∧ j ≤ 122 then f j || f (j - 32) else if 65 ≤ j ∧ j ≤ 90 then f j || f (j + 32) else f j
def foldRs (s : List (UInt8 × UInt8)) : List (UInt8 × UInt8) := canR (foldB fun j => hasI s (j : Nat)) 256
mutual
def foldX : Rx → Rx
  | .mk k s mn mx ss => .mk k (cond (k == 1) (foldRs s) s) mn mx (foldXs ss)
def foldXs : List Rx → List Rx
  | [] => []
  | x :: xs => foldX x :: foldXs xs
end
theorem foldXs_map : ∀ xs : List Rx, foldXs xs = xs.map foldX
  | [] => by rw [foldXs]; rfl
  | x :: xs => by rw [foldXs, foldXs_map xs]; rfl
theorem foldX_eq (x : Rx) : foldX x = .mk x.kind (cond (x.kind == 1) (foldRs x.set) x.set) x.mn x.mx (x.subs.map foldX) := by
  cases x; rw [foldX, foldXs_map]; rfl
/-- An expression's cells, as they show. -/
def cells5 (x : Rx) : List L := [.int .i64 x.kind, .lst 48 (encRs x.set), .int .i64 x.mn, .int .i64 x.mx, .lst 25 (x.subs.map encX)]
noncomputable def k_Fold (n : Nat) : Nat × Con := (n_regex_Fold, cX1 n fun x => cells5 (foldX x))
noncomputable def k_rFold (n : Nat) : Nat × Con := (n_codesearchref08_Fold, cX1r n fun x => cells5 (foldX x))
end Go.Ab
namespace Go.Ab
open Go.Proofs
/-! codesearch/regex.Fold -/
noncomputable def Fold_q4 (x12 : List (List L)) (x13 : Int) (x14 : Int) (h0_0 : Int) (h0_1 : List (List L)) (h0_2 : Int) (h0_3 : Int) (h0_4 : List (List L)) (h1_0 : Int) (h1_2 : Int) (h1_3 : Int) (h2_0 : Int) (h2_1 : List (List L)) (h2_2 : Int) (h2_3 : Int) (h3 : List (List L)) (h4 : List (List L)) (h5 : List (List L)) : Req := .point 24 [] (todoAt Tryd.prog 24 4) ⟨[an, (.lf (.ptr 0 0)), (.lf (.ptr 1 0)), (.lf (.ptr 2 0)), an, an, an, an, an, an, an, an, (.lf (.lst 25 x12)), (.lf (.int IntKind.i64 x13)), (.lf (.int IntKind.i64 x14)), an, an, an, an, an, an, an, an, an, an, an, an, an, an, an, an, an, an, an, an, an, an, an, an, an, an, an, an, an, an, an, an, an, an, an, an, an, an, an, an], [(.box [(.int IntKind.i64), (.sl 48), (.int IntKind.i64), (.int IntKind.i64), (.sl 25)] [(.int IntKind.i64 h0_0), (.lst 48 h0_1), (.int IntKind.i64 h0_2), (.int IntKind.i64 h0_3), (.lst 25 h0_4)]), (.box [(.int IntKind.i64), (.sl 48), (.int IntKind.i64), (.int IntKind.i64), (.sl 25)] [(.int IntKind.i64 h1_0), (.row 3), (.int IntKind.i64 h1_2), (.int IntKind.i64 h1_3), (.row 4)]), (.box [(.int IntKind.i64), (.sl 48), (.int IntKind.i64), (.int IntKind.i64), (.sl 25)] [(.int IntKind.i64 h2_0), (.lst 48 h2_1), (.int IntKind.i64 h2_2), (.int IntKind.i64 h2_3), (.row 5)]), (.row 48 h3 true), (.row 25 h4 true), (.row 25 h5 true)]⟩
noncomputable def Fold_q11 (c7 : Int) (h0_0 : Int) (h0_2 : Int) (h0_3 : Int) (h1_0 : Int) (h1_1 : List (List L)) (h1_2 : Int) (h1_3 : Int) (h2 : Nat → Bool) (h3 : List (List L)) (h4 : List (List L)) (h5 : List (List L)) : Req := .point 24 [] (todoAt Tryd.prog 24 11) ⟨[an, an, (.lf (.ptr 0 0)), (.lf (.ptr 1 0)), an, an, (.lf (.ptr 2 0)), (.lf (.int IntKind.i32 c7)), an, an, an, an, an, an, an, an, an, an, an, an, an, an, an, an, an, an, an, an, an, an, an, an, an, an, an, an, an, an, an, an, an, an, an, an, an, an, an, an, an, an, an, an, an, an, an], [(.box [(.int IntKind.i64), (.sl 48), (.int IntKind.i64), (.int IntKind.i64), (.sl 25)] [(.int IntKind.i64 h0_0), (.row 3), (.int IntKind.i64 h0_2), (.int IntKind.i64 h0_3), (.row 4)]), (.box [(.int IntKind.i64), (.sl 48), (.int IntKind.i64), (.int IntKind.i64), (.sl 25)] [(.int IntKind.i64 h1_0), (.lst 48 h1_1), (.int IntKind.i64 h1_2), (.int IntKind.i64 h1_3), (.row 5)]), (.box (List.replicate 256 .bool) (arrB h2 256)), (.row 48 h3 true), (.row 25 h4 true), (.row 25 h5 true)]⟩
theorem Fold_e (G : Req → R) (m : Nat) (re0_0 : Int) (re0_1 : List (List L)) (re0_2 : Int) (re0_3 : Int) (re0_4 : List (List L)) : runB (cfg [(k_Fold m), k_of, k_branges]) G (.enter 24 [(.agg [(.int IntKind.i64 (re0_0)), (.lst 48 re0_1), (.int IntKind.i64 (re0_2)), (.int IntKind.i64 (re0_3)), (.lst 25 re0_4)])] []) =
  (G (Fold_q4 re0_4 ((↑(List.length re0_4) : Int)) 0 re0_0 re0_1 re0_2 re0_3 re0_4 0 0 0 re0_0 re0_1 re0_2 re0_3 [] [] [])) := by kernel_rfl
theorem Fold_p4 (G : Req → R) (m : Nat) (x12 : List (List L)) (x13 : Int) (x14 : Int) (h0_0 : Int) (h0_1 : List (List L)) (h0_2 : Int) (h0_3 : Int) (h0_4 : List (List L)) (h1_0 : Int) (h1_2 : Int) (h1_3 : Int) (h2_0 : Int) (h2_1 : List (List L)) (h2_2 : Int) (h2_3 : Int) (h3 : List (List L)) (h4 : List (List L)) (h5 : List (List L)) : runB (cfg [(k_Fold m), k_of, k_branges]) G (Fold_q4 x12 x13 x14 h0_0 h0_1 h0_2 h0_3 h0_4 h1_0 h1_2 h1_3 h2_0 h2_1 h2_2 h2_3 h3 h4 h5) =
  (cond (ltI x14 x13)
   (cond (leI 0 x14 && ltI x14 (↑(List.length x12) : Int))
    (dupN 1
     (cond (isX [L.int IntKind.i64 (cI 0 (atL x12 x14)), L.lst 48 (cX 1 (atL x12 x14)), L.int IntKind.i64 (cI 2 (atL x12 x14)), L.int IntKind.i64 (cI 3 (atL x12 x14)), L.lst 25 (cX 4 (atL x12 x14))] m)
      (cond (roomN (List.length h5 + 1) 72)
       (G (Fold_q4 x12 x13 (wrapI IntKind.i64 (x14 + 1)) h0_0 h0_1 h0_2 h0_3 h0_4 h1_0 h1_2 h1_3 h2_0 h2_1 h2_2 h2_3 h3 h4 (h5 ++ [[L.int IntKind.i64 (Rx.kind (foldX (decX [L.int IntKind.i64 (cI 0 (atL x12 x14)), L.lst 48 (cX 1 (atL x12 x14)), L.int IntKind.i64 (cI 2 (atL x12 x14)), L.int IntKind.i64 (cI 3 (atL x12 x14)), L.lst 25 (cX 4 (atL x12 x14))]))), L.lst 48 (encRs (Rx.set (foldX (decX [L.int IntKind.i64 (cI 0 (atL x12 x14)), L.lst 48 (cX 1 (atL x12 x14)), L.int IntKind.i64 (cI 2 (atL x12 x14)), L.int IntKind.i64 (cI 3 (atL x12 x14)), L.lst 25 (cX 4 (atL x12 x14))])))), L.int IntKind.i64 (Rx.mn (foldX (decX [L.int IntKind.i64 (cI 0 (atL x12 x14)), L.lst 48 (cX 1 (atL x12 x14)), L.int IntKind.i64 (cI 2 (atL x12 x14)), L.int IntKind.i64 (cI 3 (atL x12 x14)), L.lst 25 (cX 4 (atL x12 x14))]))), L.int IntKind.i64 (Rx.mx (foldX (decX [L.int IntKind.i64 (cI 0 (atL x12 x14)), L.lst 48 (cX 1 (atL x12 x14)), L.int IntKind.i64 (cI 2 (atL x12 x14)), L.int IntKind.i64 (cI 3 (atL x12 x14)), L.lst 25 (cX 4 (atL x12 x14))]))), L.lst 25 (List.map encX (Rx.subs (foldX (decX [L.int IntKind.i64 (cI 0 (atL x12 x14)), L.lst 48 (cX 1 (atL x12 x14)), L.int IntKind.i64 (cI 2 (atL x12 x14)), L.int IntKind.i64 (cI 3 (atL x12 x14)), L.lst 25 (cX 4 (atL x12 x14))]))))]])))
       none)
      none))
    none)
   (cond (h0_0 == 1)
    (cond (isRs h0_1)
     (G (Fold_q11 97 h1_0 h1_2 h1_3 h2_0 h2_1 h2_2 h2_3 (fun j => hasI (decRs h0_1) (↑j : Int)) h3 h4 h5))
     none)
    (some [(.int IntKind.i64 (h2_0)), (.lst 48 h2_1), (.int IntKind.i64 (h2_2)), (.int IntKind.i64 (h2_3)), (.lst 25 h5)]))) := by kernel_rfl
theorem Fold_p11 (G : Req → R) (m : Nat) (c7 : Int) (h0_0 : Int) (h0_2 : Int) (h0_3 : Int) (h1_0 : Int) (h1_1 : List (List L)) (h1_2 : Int) (h1_3 : Int) (h2 : Nat → Bool) (h3 : List (List L)) (h4 : List (List L)) (h5 : List (List L)) : runB (cfg [(k_Fold m), k_of, k_branges]) G (Fold_q11 c7 h0_0 h0_2 h0_3 h1_0 h1_1 h1_2 h1_3 h2 h3 h4 h5) =
  (cond (leI c7 122)
   (cond (leI 0 c7 && ltI c7 (↑256 : Int))
    (cond (L.toBool (arrGet (fun j => h2 j) 256 (0 + Int.toNat c7)))
     (cond (leI 0 c7 && ltI c7 (↑256 : Int))
      (cond (leI 0 (wrapI IntKind.i32 (c7 - 32)) && ltI (wrapI IntKind.i32 (c7 - 32)) (↑256 : Int))
       (G (Fold_q11 (wrapI IntKind.i32 (c7 + 1)) h0_0 h0_2 h0_3 h1_0 h1_1 h1_2 h1_3 (fun j => bif Nat.beq j (Int.toNat (wrapI IntKind.i32 (c7 - 32))) then true else bif Nat.beq j (Int.toNat c7) then true else h2 j) h3 h4 h5))
       none)
      none)
     (cond (leI 0 (wrapI IntKind.i32 (c7 - 32)) && ltI (wrapI IntKind.i32 (c7 - 32)) (↑256 : Int))
      (cond (leI 0 c7 && ltI c7 (↑256 : Int))
       (cond (leI 0 (wrapI IntKind.i32 (c7 - 32)) && ltI (wrapI IntKind.i32 (c7 - 32)) (↑256 : Int))
        (G (Fold_q11 (wrapI IntKind.i32 (c7 + 1)) h0_0 h0_2 h0_3 h1_0 h1_1 h1_2 h1_3 (fun j => bif Nat.beq j (Int.toNat (wrapI IntKind.i32 (c7 - 32))) then L.toBool (arrGet (fun j => h2 j) 256 (0 + Int.toNat (wrapI IntKind.i32 (c7 - 32)))) else bif Nat.beq j (Int.toNat c7) then L.toBool (arrGet (fun j => h2 j) 256 (0 + Int.toNat (wrapI IntKind.i32 (c7 - 32)))) else h2 j) h3 h4 h5))
        none)
       none)
      none))
    none)
   (cond (isB (arrB (fun j => h2 j) 256))
    (some [(.int IntKind.i64 (h1_0)), (.lst 48 (encRs (canR (getB (arrB (fun j => h2 j) 256)) 256))), (.int IntKind.i64 (h1_2)), (.int IntKind.i64 (h1_3)), (.lst 25 h5)])
    none)) := by kernel_rfl

/-! codesearch/codesearchref08.Fold -/
noncomputable def rFold_q5 (c5 : Int) (h0_0 : Int) (h0_1 : List (List L)) (h0_2 : Int) (h0_3 : Int) (h0_4 : List (List L)) (h1_0 : Int) (h1_2 : Int) (h1_3 : Int) (h2_0 : Int) (h2_2 : Int) (h2_3 : Int) (h3 : List (List L)) (h4 : List (List L)) (h5 : List (List L)) (h6 : List (List L)) (h7 : List (List L)) : Req := .point 25 [] (todoAt Tryd.prog 25 5) ⟨[an, (.lf (.ptr 0 0)), (.lf (.ptr 1 0)), (.lf (.ptr 2 0)), (.lf (.row 3)), (.lf (.int IntKind.u8 c5)), an, an, an, an, an, an, an, an, an, an, an, an, an, an, an, an, an, an, an, an, an, an, an, an, an, an, an, an, an, an, an, an, an, an, an, an, an, an, an, an, an, an, an, an, an, an, an, an, an, an, an, an, an, an, an, an, an, an, an, an, an, an, an, an, an], [(.box [(.int IntKind.i64), (.sl 48), (.int IntKind.i64), (.int IntKind.i64), (.sl 25)] [(.int IntKind.i64 h0_0), (.lst 48 h0_1), (.int IntKind.i64 h0_2), (.int IntKind.i64 h0_3), (.lst 25 h0_4)]), (.box [(.int IntKind.i64), (.sl 48), (.int IntKind.i64), (.int IntKind.i64), (.sl 25)] [(.int IntKind.i64 h1_0), (.row 4), (.int IntKind.i64 h1_2), (.int IntKind.i64 h1_3), (.row 5)]), (.box [(.int IntKind.i64), (.sl 48), (.int IntKind.i64), (.int IntKind.i64), (.sl 25)] [(.int IntKind.i64 h2_0), (.row 6), (.int IntKind.i64 h2_2), (.int IntKind.i64 h2_3), (.row 7)]), (.row 48 h3 true), (.row 48 h4 true), (.row 25 h5 true), (.row 48 h6 true), (.row 25 h7 true)]⟩
noncomputable def rFold_q14 (i7 : Int) (h0_0 : Int) (h0_1 : List (List L)) (h0_2 : Int) (h0_3 : Int) (h0_4 : List (List L)) (h1_0 : Int) (h1_2 : Int) (h1_3 : Int) (h2_0 : Int) (h2_2 : Int) (h2_3 : Int) (h3 : List (List L)) (h4 : List (List L)) (h5 : List (List L)) (h6 : List (List L)) : Req := .point 25 [] (todoAt Tryd.prog 25 14) ⟨[an, (.lf (.ptr 0 0)), (.lf (.ptr 1 0)), (.lf (.ptr 2 0)), an, an, an, (.lf (.int IntKind.i64 i7)), an, an, an, an, an, an, an, an, an, an, an, an, an, an, an, an, an, an, an, an, an, an, an, an, an, an, an, an, an, an, an, an, an, an, an, an, an, an, an, an, an, an, an, an, an, an, an, an, an, an, an, an, an, an, an, an, an, an, an, an, an, an, an], [(.box [(.int IntKind.i64), (.sl 48), (.int IntKind.i64), (.int IntKind.i64), (.sl 25)] [(.int IntKind.i64 h0_0), (.lst 48 h0_1), (.int IntKind.i64 h0_2), (.int IntKind.i64 h0_3), (.lst 25 h0_4)]), (.box [(.int IntKind.i64), (.sl 48), (.int IntKind.i64), (.int IntKind.i64), (.sl 25)] [(.int IntKind.i64 h1_0), (.row 3), (.int IntKind.i64 h1_2), (.int IntKind.i64 h1_3), (.row 4)]), (.box [(.int IntKind.i64), (.sl 48), (.int IntKind.i64), (.int IntKind.i64), (.sl 25)] [(.int IntKind.i64 h2_0), (.row 5), (.int IntKind.i64 h2_2), (.int IntKind.i64 h2_3), (.row 6)]), (.row 48 h3 true), (.row 25 h4 true), (.row 48 h5 true), (.row 25 h6 true)]⟩
theorem rFold_e (G : Req → R) (m : Nat) (re0_0 : Int) (re0_1 : List (List L)) (re0_2 : Int) (re0_3 : Int) (re0_4 : List (List L)) : runB (cfg [k_rHas, k_Ranges, (k_rFold m)]) G (.enter 25 [(.agg [(.int IntKind.i64 (re0_0)), (.lst 48 re0_1), (.int IntKind.i64 (re0_2)), (.int IntKind.i64 (re0_3)), (.lst 25 re0_4)])] []) =
  (cond (re0_0 == 1)
   (cond (roomN (0 + List.length re0_1) 2)
    (G (rFold_q5 97 re0_0 re0_1 re0_2 re0_3 re0_4 0 0 0 re0_0 re0_2 re0_3 ([] ++ re0_1) [] [] [] []))
    none)
   (G (rFold_q14 0 re0_0 re0_1 re0_2 re0_3 re0_4 0 0 0 re0_0 re0_2 re0_3 [] [] [] []))) := by kernel_rfl
theorem rFold_p5 (G : Req → R) (m : Nat) (c5 : Int) (h0_0 : Int) (h0_1 : List (List L)) (h0_2 : Int) (h0_3 : Int) (h0_4 : List (List L)) (h1_0 : Int) (h1_2 : Int) (h1_3 : Int) (h2_0 : Int) (h2_2 : Int) (h2_3 : Int) (h3 : List (List L)) (h4 : List (List L)) (h5 : List (List L)) (h6 : List (List L)) (h7 : List (List L)) : runB (cfg [k_rHas, k_Ranges, (k_rFold m)]) G (rFold_q5 c5 h0_0 h0_1 h0_2 h0_3 h0_4 h1_0 h1_2 h1_3 h2_0 h2_2 h2_3 h3 h4 h5 h6 h7) =
  (cond (leI c5 122)
   (cond (isRs h0_1)
    (cond (hasI (decRs h0_1) c5)
     (cond (roomN (List.length h3 + 1) 2)
      (cond (isRs h0_1)
       (cond (hasI (decRs h0_1) (wrapI IntKind.u8 (wrapI IntKind.u8 (c5 - 97) + 65)))
        (cond (roomN (List.length (h3 ++ [[L.int IntKind.u8 (wrapI IntKind.u8 (wrapI IntKind.u8 (c5 - 97) + 65)), L.int IntKind.u8 (wrapI IntKind.u8 (wrapI IntKind.u8 (c5 - 97) + 65))]]) + 1) 2)
         (G (rFold_q5 (wrapI IntKind.u8 (c5 + 1)) h0_0 h0_1 h0_2 h0_3 h0_4 h1_0 h1_2 h1_3 h2_0 h2_2 h2_3 (h3 ++ [[L.int IntKind.u8 (wrapI IntKind.u8 (wrapI IntKind.u8 (c5 - 97) + 65)), L.int IntKind.u8 (wrapI IntKind.u8 (wrapI IntKind.u8 (c5 - 97) + 65))]] ++ [[L.int IntKind.u8 c5, L.int IntKind.u8 c5]]) h4 h5 h6 h7))
         none)
        (G (rFold_q5 (wrapI IntKind.u8 (c5 + 1)) h0_0 h0_1 h0_2 h0_3 h0_4 h1_0 h1_2 h1_3 h2_0 h2_2 h2_3 (h3 ++ [[L.int IntKind.u8 (wrapI IntKind.u8 (wrapI IntKind.u8 (c5 - 97) + 65)), L.int IntKind.u8 (wrapI IntKind.u8 (wrapI IntKind.u8 (c5 - 97) + 65))]]) h4 h5 h6 h7)))
       none)
      none)
     (cond (isRs h0_1)
      (cond (hasI (decRs h0_1) (wrapI IntKind.u8 (wrapI IntKind.u8 (c5 - 97) + 65)))
       (cond (roomN (List.length h3 + 1) 2)
        (G (rFold_q5 (wrapI IntKind.u8 (c5 + 1)) h0_0 h0_1 h0_2 h0_3 h0_4 h1_0 h1_2 h1_3 h2_0 h2_2 h2_3 (h3 ++ [[L.int IntKind.u8 c5, L.int IntKind.u8 c5]]) h4 h5 h6 h7))
        none)
       (G (rFold_q5 (wrapI IntKind.u8 (c5 + 1)) h0_0 h0_1 h0_2 h0_3 h0_4 h1_0 h1_2 h1_3 h2_0 h2_2 h2_3 h3 h4 h5 h6 h7)))
      none))
    none)
   (cond (isRs h3)
    (G (rFold_q14 0 h0_0 h0_1 h0_2 h0_3 h0_4 h1_0 h1_2 h1_3 h2_0 h2_2 h2_3 h4 h5 (encRs (canR (fun j => !hasI (decRs h3) (↑j : Int) == false) 256)) h7))
    none)) := by kernel_rfl
theorem rFold_p14 (G : Req → R) (m : Nat) (i7 : Int) (h0_0 : Int) (h0_1 : List (List L)) (h0_2 : Int) (h0_3 : Int) (h0_4 : List (List L)) (h1_0 : Int) (h1_2 : Int) (h1_3 : Int) (h2_0 : Int) (h2_2 : Int) (h2_3 : Int) (h3 : List (List L)) (h4 : List (List L)) (h5 : List (List L)) (h6 : List (List L)) : runB (cfg [k_rHas, k_Ranges, (k_rFold m)]) G (rFold_q14 i7 h0_0 h0_1 h0_2 h0_3 h0_4 h1_0 h1_2 h1_3 h2_0 h2_2 h2_3 h3 h4 h5 h6) =
  (cond (ltI i7 (↑(List.length h0_4) : Int))
   (cond (leI 0 i7 && ltI i7 (↑(List.length h0_4) : Int))
    (dupN 1
     (cond (isX [L.int IntKind.i64 (cI 0 (atL h0_4 i7)), L.lst 48 (cX 1 (atL h0_4 i7)), L.int IntKind.i64 (cI 2 (atL h0_4 i7)), L.int IntKind.i64 (cI 3 (atL h0_4 i7)), L.lst 25 (cX 4 (atL h0_4 i7))] m && nodeS (decX [L.int IntKind.i64 (cI 0 (atL h0_4 i7)), L.lst 48 (cX 1 (atL h0_4 i7)), L.int IntKind.i64 (cI 2 (atL h0_4 i7)), L.int IntKind.i64 (cI 3 (atL h0_4 i7)), L.lst 25 (cX 4 (atL h0_4 i7))]) == 0)
      (cond (roomN (List.length h6 + 1) 72)
       (G (rFold_q14 (wrapI IntKind.i64 (i7 + 1)) h0_0 h0_1 h0_2 h0_3 h0_4 h1_0 h1_2 h1_3 h2_0 h2_2 h2_3 h3 h4 h5 (h6 ++ [[L.int IntKind.i64 (Rx.kind (foldX (decX [L.int IntKind.i64 (cI 0 (atL h0_4 i7)), L.lst 48 (cX 1 (atL h0_4 i7)), L.int IntKind.i64 (cI 2 (atL h0_4 i7)), L.int IntKind.i64 (cI 3 (atL h0_4 i7)), L.lst 25 (cX 4 (atL h0_4 i7))]))), L.lst 48 (encRs (Rx.set (foldX (decX [L.int IntKind.i64 (cI 0 (atL h0_4 i7)), L.lst 48 (cX 1 (atL h0_4 i7)), L.int IntKind.i64 (cI 2 (atL h0_4 i7)), L.int IntKind.i64 (cI 3 (atL h0_4 i7)), L.lst 25 (cX 4 (atL h0_4 i7))])))), L.int IntKind.i64 (Rx.mn (foldX (decX [L.int IntKind.i64 (cI 0 (atL h0_4 i7)), L.lst 48 (cX 1 (atL h0_4 i7)), L.int IntKind.i64 (cI 2 (atL h0_4 i7)), L.int IntKind.i64 (cI 3 (atL h0_4 i7)), L.lst 25 (cX 4 (atL h0_4 i7))]))), L.int IntKind.i64 (Rx.mx (foldX (decX [L.int IntKind.i64 (cI 0 (atL h0_4 i7)), L.lst 48 (cX 1 (atL h0_4 i7)), L.int IntKind.i64 (cI 2 (atL h0_4 i7)), L.int IntKind.i64 (cI 3 (atL h0_4 i7)), L.lst 25 (cX 4 (atL h0_4 i7))]))), L.lst 25 (List.map encX (Rx.subs (foldX (decX [L.int IntKind.i64 (cI 0 (atL h0_4 i7)), L.lst 48 (cX 1 (atL h0_4 i7)), L.int IntKind.i64 (cI 2 (atL h0_4 i7)), L.int IntKind.i64 (cI 3 (atL h0_4 i7)), L.lst 25 (cX 4 (atL h0_4 i7))]))))]])))
       none)
      none))
    none)
   (some [(.int IntKind.i64 (h2_0)), (.lst 48 h5), (.int IntKind.i64 (h2_2)), (.int IntKind.i64 (h2_3)), (.lst 25 h6)])) := by kernel_rfl

end Go.Ab
namespace Go.Ab
open Go.Proofs

theorem canR_congr {f g : Nat → Bool} : ∀ {n : Nat}, (∀ j, j < n → f j = g j) → canR f n = canR g n
  | 0, _ => rfl
  | n + 1, h => by rw [canR, canR, h n (by omega), canR_congr fun j hj => h j (by omega)]
theorem take_at {α : Type} (d : α) {l : List α} {i : Nat} (h : i < l.length) : l.take (i + 1) = l.take i ++ [l.getD i d] := by
  rw [List.take_add_one, List.getElem?_eq_getElem h]
  simp [List.getD, h]
/-- The letters below 'c' are done. -/
def fbC (c : Nat) (f : Nat → Bool) (j : Nat) : Bool :=
  if 97 ≤ j ∧ j < c then f j || f (j - 32) else if 65 ≤ j ∧ j + 32 < c then f j || f (j + 32) else f j
theorem fbC_0 (f : Nat → Bool) : fbC 97 f = f := by
  funext j; unfold fbC
  rw [if_neg (by omega), if_neg (by omega)]
theorem fbC_end (f : Nat → Bool) : fbC 123 f = foldB f := by
  funext j; unfold fbC foldB
  have e1 : (97 ≤ j ∧ j < 123) = (97 ≤ j ∧ j ≤ 122) := by rw [eq_iff_iff]; omega
  have e2 : (65 ≤ j ∧ j + 32 < 123) = (65 ≤ j ∧ j ≤ 90) := by rw [eq_iff_iff]; omega
  simp only [e1, e2]
theorem fbC_at (c : Nat) (f : Nat → Bool) : fbC c f c = f c := by
  unfold fbC
  rw [if_neg (by omega), if_neg (by omega)]
theorem fbC_up (c : Nat) (f : Nat → Bool) (h1 : 97 ≤ c) (h2 : c ≤ 122) : fbC c f (c - 32) = f (c - 32) := by
  unfold fbC
  rw [if_neg (by omega), if_neg (by omega)]
theorem fbC_step (c : Nat) (f : Nat → Bool) (h1 : 97 ≤ c) (h2 : c ≤ 122) (j : Nat) :
    fbC (c + 1) f j = if j = c ∨ j = c - 32 then f c || f (c - 32) else fbC c f j := by
  by_cases e1 : j = c
  · subst e1
    rw [if_pos (.inl rfl)]
    unfold fbC
    rw [if_pos (by omega)]
  · by_cases e2 : j = c - 32
    · subst e2
      rw [if_pos (.inr rfl)]
      unfold fbC
      rw [if_neg (by omega), if_pos (by omega), Bool.or_comm]
      congr 2; omega
    · rw [if_neg (by omega)]
      unfold fbC
      by_cases e3 : 97 ≤ j ∧ j < c
      · rw [if_pos e3, if_pos (by omega)]
      · rw [if_neg e3, if_neg (by omega)]
        by_cases e4 : 65 ≤ j ∧ j + 32 < c
        · rw [if_pos e4, if_pos (by omega)]
        · rw [if_neg e4, if_neg (by omega)]
theorem Fold_bytes {m : Nat} (k0 mn mx : Int) (s : List (List L)) (f : Nat → Bool) (a b c' : Int) (h3 h4 h5 : List (List L)) : ∀ n c : Nat, 97 ≤ c → c + n = 123 →
    Runs (cfg [k_Fold m, k_of, k_branges]) (Fold_q11 (c : Nat) a b c' k0 s mn mx (fbC c f) h3 h4 h5)
      [.int .i64 k0, .lst 48 (encRs (canR (foldB f) 256)), .int .i64 mn, .int .i64 mx, .lst 25 h5]
  | 0, c, h1, h2 => by
    refine Runs.by (Fold_p11 · _ _ _ _ _ _ _ _ _ _ _ _ _) ?_
    have : c = 123 := by omega
    subst this
    rw [show leI ((123 : Nat) : Int) 122 = false from by decide, isB_arr, fbC_end]
    simp only [cond_false, cond_true]
    refine .ret' ?_
    rw [canR_congr (f := getB (arrB (fun j => foldB f j) 256)) (g := foldB f) fun j hj => getB_arr _ hj]
  | n + 1, c, h1, h2 => by
    refine Runs.by (Fold_p11 · _ _ _ _ _ _ _ _ _ _ _ _ _) ?_
    have ih := Fold_bytes k0 mn mx s f a b c' h3 h4 h5 (m := m) n (c + 1) (by omega) (by omega)
    have e0 : ((c : Int) - 32).toNat = c - 32 := by omega
    simp (disch := omega) only [ev_lt_t, ev_le_t, cond_true, Bool.and_self, w32, Nat.zero_add, Int.toNat_natCast, e0, arrGet_eq, L.toBool, fbC_at, fbC_up]
    have key : ∀ v : Bool, v = (f c || f (c - 32)) → (fun j => bif Nat.beq j (c - 32) then v else bif Nat.beq j c then v else fbC c f j) = fbC (c + 1) f := fun v hv => by
      funext j
      rw [fbC_step c f h1 (by omega)]
      by_cases e1 : j = c - 32
      · subst e1
        rw [show Nat.beq (c - 32) (c - 32) = true from by simp, if_pos (.inr rfl), ← hv]; rfl
      · rw [show Nat.beq j (c - 32) = false from by rw [← Bool.not_eq_true, Nat.beq_eq]; exact e1]
        by_cases e2 : j = c
        · subst e2
          rw [show Nat.beq j j = true from by simp, if_pos (.inl rfl), ← hv]; rfl
        · rw [show Nat.beq j c = false from by rw [← Bool.not_eq_true, Nat.beq_eq]; exact e2, if_neg (by omega)]; rfl
    cases hc : f c with
    | true =>
      rw [key true (by rw [hc]; rfl)]
      simp only [cond_true]
      exact .go (by simpa using ih)
    | false =>
      rw [key (f (c - 32)) (by rw [hc]; rfl)]
      simp only [cond_false]
      exact .go (by simpa using ih)
theorem Fold_subs {m : Nat} {x : Rx} (ho : x.ok) (hl : x.lev ≤ m + 1) (h3 h4 : List (List L)) : ∀ k i : Nat, i + k = x.subs.length →
    Runs (cfg [k_Fold m, k_of, k_branges]) (Fold_q4 (x.subs.map encX) (x.subs.length : Nat) (i : Nat) x.kind (encRs x.set) x.mn x.mx (x.subs.map encX) 0 0 0 x.kind (encRs x.set) x.mn x.mx h3 h4 ((x.subs.take i).map fun y => encX (foldX y))) (cells5 (foldX x))
  | 0, i, h => by
    refine Runs.by (Fold_p4 · _ _ _ _ _ _ _ _ _ _ _ _ _ _ _ _ _ _ _) ?_
    simp (disch := omega) only [ev_lt_f, cond_false]
    have e : (x.subs.take i).map (fun y => encX (foldX y)) = (foldX x).subs.map encX := by
      rw [List.take_of_length_le (by omega), foldX_eq]
      simp [Rx.subs, Function.comp_def]
    rw [e]
    unfold cells5
    by_cases hk : x.kind = 1
    · rw [ev_eq_t hk, isRs_enc (ok_set ho), decRs_enc]
      have hb := Fold_bytes (m := m) x.kind x.mn x.mx (encRs x.set) (fun j => hasI x.set (j : Nat)) 0 0 0 h3 h4 ((foldX x).subs.map encX) 26 97 (by omega) (by omega)
      rw [fbC_0] at hb
      refine .go ?_
      have e2 : foldX x = .mk x.kind (foldRs x.set) x.mn x.mx (x.subs.map foldX) := by rw [foldX_eq, ev_eq_t hk]; rfl
      rw [e2] at hb ⊢
      exact hb
    · rw [ev_eq_f hk]
      refine .ret' ?_
      have e2 : foldX x = .mk x.kind x.set x.mn x.mx (x.subs.map foldX) := by rw [foldX_eq, ev_eq_f hk]; rfl
      rw [e2]; rfl
  | k + 1, i, h => by
    refine Runs.by (Fold_p4 · _ _ _ _ _ _ _ _ _ _ _ _ _ _ _ _ _ _ _) ?_
    have hi : i < x.subs.length := by omega
    have hs := ok_subs ho
    have m1 := subs_in ho hl _ (mem_getD hi)
    simp (disch := omega) only [dupN_eq, List.length_map, List.length_take, ev_lt_t, ev_le_t, cond_true, Bool.and_self, xs_at, el_enc, w64, isX_enc m1.1 m1.2, decX_enc, roomN_t, Nat.min_eq_left]
    have ih := Fold_subs ho hl h3 h4 k (i + 1) (by omega)
    rw [take_at default hi, List.map_append] at ih
    refine .go ?_
    rw [enc5]
    exact ih
theorem Fold_holds : ∀ n, Holds (k_Fold n)
  | 0 => cX1_of (xs := []) hold0 fun x ho hl => (no_lev hl).elim
  | n + 1 => cX1_of (xs := [k_Fold n, k_of, k_branges]) (hold1 (Fold_holds n) (hold1 bof_holds (hold1 branges_holds hold0))) fun x ho hl => by
    refine Runs.by (Fold_e · _ _ _ _ _ _) ?_
    rw [List.length_map]
    exact .go (Fold_subs ho hl [] [] x.subs.length 0 (by omega))
/-! ### the reference -/
theorem hasI_app (a b : List (UInt8 × UInt8)) (c : Int) : hasI (a ++ b) c = (hasI a c || hasI b c) := by unfold hasI; rw [List.any_append]
theorem hasI_one {n j : Nat} (h : n < 256) : hasI [(UInt8.ofNat n, UInt8.ofNat n)] (j : Int) = decide (j = n) := by
  unfold hasI
  simp only [List.any_cons, List.any_nil, Bool.or_false, u8_nat h]
  rw [Bool.eq_iff_iff, Bool.and_eq_true, decide_eq_true_eq]
  simp only [leI_true']
  omega
theorem rFold_subs {m : Nat} {x : Rx} (ho : x.ok) (hl : x.lev ≤ m + 1) (hr : ∀ y ∈ x.subs, nodeS y = 0) (s : List (UInt8 × UInt8)) (hs' : (foldX x).set = s) (h3 h4 : List (List L)) (a b c : Int) : ∀ k i : Nat, i + k = x.subs.length →
    Runs (cfg [k_rHas, k_Ranges, k_rFold m]) (rFold_q14 (i : Nat) x.kind (encRs x.set) x.mn x.mx (x.subs.map encX) a b c x.kind x.mn x.mx h3 h4 (encRs s) ((x.subs.take i).map fun y => encX (foldX y))) (cells5 (foldX x))
  | 0, i, h => by
    refine Runs.by (rFold_p14 · _ _ _ _ _ _ _ _ _ _ _ _ _ _ _ _ _) ?_
    simp (disch := omega) only [List.length_map, ev_lt_f, cond_false]
    have e : (x.subs.take i).map (fun y => encX (foldX y)) = (foldX x).subs.map encX := by
      rw [List.take_of_length_le (by omega), foldX_eq]
      simp [Rx.subs, Function.comp_def]
    rw [e, ← hs']
    refine .ret' ?_
    unfold cells5
    rw [foldX_eq]; rfl
  | k + 1, i, h => by
    refine Runs.by (rFold_p14 · _ _ _ _ _ _ _ _ _ _ _ _ _ _ _ _ _) ?_
    have hi : i < x.subs.length := by omega
    have hs := ok_subs ho
    have m1 := subs_in ho hl _ (mem_getD hi)
    have m2 := hr _ (mem_getD hi)
    simp (disch := omega) only [dupN_eq, List.length_map, List.length_take, ev_lt_t, ev_le_t, cond_true, Bool.and_self, xs_at, el_enc, w64, isX_enc m1.1 m1.2, decX_enc, right_beq m2, roomN_t, Nat.min_eq_left]
    have ih := rFold_subs ho hl hr s hs' h3 h4 a b c k (i + 1) (by omega)
    rw [take_at default hi, List.map_append] at ih
    refine .go ?_
    rw [enc5]
    exact ih
theorem rFold_bytes {m : Nat} {x : Rx} (ho : x.ok) (hl : x.lev ≤ m + 1) (hk : x.kind = 1) (hr : ∀ y ∈ x.subs, nodeS y = 0) (h4 h5 h7 : List (List L)) (hh : h7 = []) (h6 : List (List L)) (a b c' : Int) : ∀ (n c : Nat) (l : List (UInt8 × UInt8)), 97 ≤ c → c + n = 123 →
    l.length + 2 * n ≤ x.set.length + 52 → (∀ j : Nat, j < 256 → hasI l (j : Int) = fbC c (fun j => hasI x.set (j : Nat)) j) →
    Runs (cfg [k_rHas, k_Ranges, k_rFold m]) (rFold_q5 (c : Nat) x.kind (encRs x.set) x.mn x.mx (x.subs.map encX) a b c' x.kind x.mn x.mx (encRs l) h4 h5 h6 h7) (cells5 (foldX x))
  | 0, c, l, h1, h2, h3, h => by
    refine Runs.by (rFold_p5 · _ _ _ _ _ _ _ _ _ _ _ _ _ _ _ _ _ _) ?_
    have : c = 123 := by omega
    subst this
    have hs := ok_set' ho
    rw [show leI ((123 : Nat) : Int) 122 = false from by decide, isRs_enc (x := l) (by omega)]
    simp only [cond_false, cond_true, decRs_enc]
    subst hh
    have ec : canR (fun j => !(hasI l (j : Int) == false)) 256 = foldRs x.set := by
      unfold foldRs
      refine canR_congr fun j hj => ?_
      rw [h j hj, fbC_end]
      cases foldB (fun j => hasI x.set (j : Nat)) j <;> rfl
    rw [ec]
    exact .go (rFold_subs ho hl hr (foldRs x.set) (by rw [foldX_eq, ev_eq_t hk]; rfl) _ _ _ _ _ x.subs.length 0 (by omega))
  | n + 1, c, l, h1, h2, h3, h => by
    refine Runs.by (rFold_p5 · _ _ _ _ _ _ _ _ _ _ _ _ _ _ _ _ _ _) ?_
    have hs := ok_set ho
    have e1 : wrapI .u8 (wrapI .u8 ((c : Int) - 97) + 65) = ((c - 32 : Nat) : Int) := by
      rw [w8 (n := (c : Int) - 97) (by omega) (by omega), w8 (n := (c : Int) - 97 + 65) (by omega) (by omega)]; omega
    have e2 : wrapI .u8 ((c : Int) + 1) = ((c + 1 : Nat) : Int) := by rw [w8 (by omega) (by omega)]; omega
    have f1 := fbC_step c (fun j => hasI x.set (j : Nat)) h1 (by omega)
    rw [e1, e2, isRs_enc hs, decRs_enc]
    simp (disch := omega) only [ev_le_t, cond_true, encRs_len, roomN_t, List.length_append, List.length_cons, List.length_nil]
    rw [encRs_snoc l (c - 32) (c - 32) (by omega) (by omega), encRs_snoc _ c c (by omega) (by omega), encRs_snoc l c c (by omega) (by omega)]
    cases hc : hasI x.set (c : Int) with
    | true =>
      cases hd : hasI x.set ((c - 32 : Nat) : Int) with
      | true =>
        refine .go (rFold_bytes ho hl hk hr h4 h5 h7 hh h6 a b c' n (c + 1) _ (by omega) (by omega) (by simp; omega) fun j hj => ?_)
        rw [f1, hasI_app, hasI_app, hasI_one (by omega), hasI_one (by omega), h j hj, hc, hd]
        by_cases q1 : j = c
        · simp [q1]
        · by_cases q2 : j = c - 32
          · simp [q2]
          · rw [if_neg (by omega)]; simp [q1, q2]
      | false =>
        refine .go (rFold_bytes ho hl hk hr h4 h5 h7 hh h6 a b c' n (c + 1) _ (by omega) (by omega) (by simp; omega) fun j hj => ?_)
        rw [f1, hasI_app, hasI_one (by omega), h j hj, hc, hd]
        by_cases q1 : j = c
        · subst q1; rw [fbC_at, hc]; simp
        · by_cases q2 : j = c - 32
          · simp [q2]
          · rw [if_neg (by omega)]; simp [q1, q2]
    | false =>
      cases hd : hasI x.set ((c - 32 : Nat) : Int) with
      | true =>
        refine .go (rFold_bytes ho hl hk hr h4 h5 h7 hh h6 a b c' n (c + 1) _ (by omega) (by omega) (by simp; omega) fun j hj => ?_)
        rw [f1, hasI_app, hasI_one (by omega), h j hj, hc, hd]
        by_cases q1 : j = c
        · simp [q1]
        · by_cases q2 : j = c - 32
          · subst q2; rw [fbC_up c _ h1 (by omega), hd]; simp
          · rw [if_neg (by omega)]; simp [q1, q2]
      | false =>
        refine .go (rFold_bytes ho hl hk hr h4 h5 h7 hh h6 a b c' n (c + 1) _ (by omega) (by omega) (by omega) fun j hj => ?_)
        rw [f1, h j hj, hc, hd]
        by_cases q1 : j = c
        · subst q1; rw [fbC_at, hc]; simp
        · by_cases q2 : j = c - 32
          · subst q2; rw [fbC_up c _ h1 (by omega), hd]; simp
          · rw [if_neg (by omega)]
theorem rFold_holds : ∀ n, Holds (k_rFold n)
  | 0 => cX1r_of (xs := []) hold0 fun x ho hl hr => (no_lev hl).elim
  | n + 1 => cX1r_of (xs := [k_rHas, k_Ranges, k_rFold n]) (hold1 rHas_holds (hold1 rRanges_holds (hold1 (rFold_holds n) hold0))) fun x ho hl hr => by
    refine Runs.by (rFold_e · _ _ _ _ _ _) ?_
    obtain ⟨hf, _, hs⟩ := right_of hr
    have h1 := ok_set ho
    by_cases hk : x.kind = 1
    · rw [ev_eq_t hk]
      simp (disch := omega) only [encRs_len, cond_true, roomN_t, List.nil_append]
      exact .go (rFold_bytes ho hl hk hs [] [] [] rfl [] 0 0 0 26 97 x.set (by omega) (by omega) (by omega) fun j _ => by rw [fbC_0])
    · rw [ev_eq_f hk]
      have e0 : x.set = [] := by
        have := hf.2.2.1
        exact List.eq_nil_of_length_eq_zero (by omega)
      exact .go (rFold_subs ho hl hs [] (by rw [foldX_eq, ev_eq_f hk, e0]; rfl) [] [] 0 0 0 x.subs.length 0 (by omega))
end Go.Ab
namespace Go.Ab
open Go.Proofs

def u8 (c : Int) : UInt8 := c.toNat.toUInt8
def okB (c : Int) : Bool := leI 0 c && leI c 255
/-- The bytes with a meaning of their own; those that a set has as escapes only. -/
def spcs : List UInt8 := [92, 46, 42, 43, 63, 40, 41, 91, 93, 123, 125, 124, 94, 36]
def insB : List UInt8 := [92, 91, 93, 94, 45]
def classB (b : UInt8) : Int := if b < 32 ∨ 126 < b then 2 else if b ∈ spcs then 1 else 0
def visB (b : UInt8) : Bool := b = 9 || (b = 10 || (32 ≤ b && b ≤ 126))
def wrB (b : UInt8) (m : List UInt8) : List UInt8 := if b = 9 then [92, 116] else if b = 10 then [92, 110] else if b ∈ m then [92, b] else [b]
def inR (r : UInt8 × UInt8) : List UInt8 := wrB r.1 insB ++ (if r.1 < r.2 then 45 :: wrB r.2 insB else [])
def insL (l : List (UInt8 × UInt8)) : List UInt8 × Bool := if l.all (fun r => visB r.1 && visB r.2) then (l.flatMap inR, decide (0 < l.length)) else ([], false)
/-- A set as it is written. -/
def setP (l : List (UInt8 × UInt8)) : List UInt8 × Bool :=
  if canR (fun j => hasI l (j : Nat)) 256 ≠ l then ([], false)
  else if l.length = 1 ∧ (l.getD 0 (0, 0)).1 = (l.getD 0 (0, 0)).2 ∧ visB (l.getD 0 (0, 0)).1 = true then (wrB (l.getD 0 (0, 0)).1 spcs, true)
  else if canR (fun j => !(hasI l (j : Nat))) 256 = [(10, 10)] then ([46], true)
  else if (insL l).2 then ([91] ++ (insL l).1 ++ [93], true)
  else ([91, 94] ++ (insL (canR (fun j => !(hasI l (j : Nat))) 256)).1 ++ [93], (insL (canR (fun j => !(hasI l (j : Nat))) 256)).2)
def decN (n : Int) : List UInt8 := if n < 10 then [UInt8.ofNat (48 + n.toNat)] else [UInt8.ofNat (48 + n.toNat / 10 % 10), UInt8.ofNat (48 + n.toNat % 10)]
def joinB (xs : List (List UInt8)) (sep : List UInt8) : List UInt8 := sep.intercalate xs
def sufP (mn mx : Int) : List UInt8 :=
  cond (mn == 0 && mx == -1) [42] (cond (mn == 1 && mx == -1) [43] (cond (mn == 0 && mx == 1) [63]
    (cond (mn == mx) ([123] ++ decN mn ++ [125]) (cond (mx == -1) ([123] ++ decN mn ++ [44, 125]) ([123] ++ decN mn ++ [44] ++ decN mx ++ [125])))))
def wrapP (ks : List Int) (x : Rx) (s : List UInt8) : List UInt8 := if x.kind ∈ ks then [40] ++ s ++ [41] else s
mutual
/-- An expression as it is written. -/
def textP : Rx → List UInt8 × Bool
  | .mk k s mn mx ss =>
    if k = 1 then setP s
    else if k = 2 then (joinB ((textL [2, 3] ss).getD []) [], (textL [2, 3] ss).isSome && decide (((textL [2, 3] ss).getD []).length ≠ 1))
    else if k = 3 then (joinB ((textL [3] ss).getD []) [124], (textL [3] ss).isSome)
    else if k = 4 then (joinB ((textL [2, 3, 4] ss).getD []) [] ++ sufP mn mx, (textL [2, 3, 4] ss).isSome)
    else if k = 5 then ([94], true) else if k = 6 then ([36], true) else ([92, 98], true)
def textL (ks : List Int) : List Rx → Option (List (List UInt8))
  | [] => some []
  | x :: xs => match textP x with
    | (s, true) => (textL ks xs).map fun l => wrapP ks x s :: l
    | (_, false) => none
end
def printP (x : Rx) : List UInt8 × Int := if rightS x ≠ 0 then ([], rightS x) else if (textP x).2 = false ∨ 300 < (textP x).1.length then ([], 3) else ((textP x).1, 0)
def encS (l : List (List UInt8)) : List (List L) := l.map fun s => [.str (mk s)]

noncomputable def k_IndexByte : Nat × Con := (n_strings_IndexByte, fun
  | [.lf (.str s), .lf (.int .u8 c)], [] => some (true, [.int .i64 (Lib.indexByte (bl s) (u8 c))])
  | _, _ => none)
noncomputable def k_class : Nat × Con := (n_regex_class, fun
  | [.lf (.int .u8 c)], [] => some (okB c, [.int .i64 (classB (u8 c))])
  | _, _ => none)
noncomputable def k_visible : Nat × Con := (n_regex_visible, fun
  | [.lf (.int .u8 c)], [] => some (okB c, [.bool (visB (u8 c))])
  | _, _ => none)
noncomputable def k_written : Nat × Con := (n_regex_written, fun
  | [.lf (.int .u8 c), .lf (.str m)], [] => some (okB c, [.str (mk (wrB (u8 c) (bl m)))])
  | _, _ => none)
noncomputable def k_inside : Nat × Con := (n_regex_inside, fun
  | [.lf (.lst 48 xs)], [] => some (isRs xs, [.str (mk (insL (decRs xs)).1), .bool (insL (decRs xs)).2])
  | _, _ => none)
noncomputable def k_invert : Nat × Con := (n_regex_bytes_invert, fun
  | [.agg cs], [] => some (isB cs, arrB (fun j => !(getB cs j)) 256)
  | _, _ => none)
noncomputable def k_printSet : Nat × Con := (n_regex_printSet, fun
  | [.lf (.lst 48 xs)], [] => some (isRs xs, [.str (mk (setP (decRs xs)).1), .bool (setP (decRs xs)).2])
  | _, _ => none)
noncomputable def k_Itoa : Nat × Con := (n_strconv_Itoa, fun
  | [.lf (.int .i64 n)], [] => some (leI 0 n && leI n 99, [.str (mk (decN n))])
  | _, _ => none)
noncomputable def k_bounds : Nat × Con := (n_regex_bounds, fun
  | [.agg [.int .i64 a0, .lst 48 a1, .int .i64 a2, .int .i64 a3, .lst 25 a4]], [] => some ((leI 0 a2 && leI a2 99) && (leI (-1) a3 && leI a3 99), [.str (mk (sufP a2 a3))])
  | _, _ => none)
noncomputable def k_Join : Nat × Con := (n_strings_Join, fun
  | [.lf (.lst 9 xs), .lf (.str sep)], [] => some (Nat.ble xs.length 140737488355328 && Nat.ble (joinB (xs.map fun e => bl (cT 0 e)) (bl sep)).length 140737488355328, [.str (mk (joinB (xs.map fun e => bl (cT 0 e)) (bl sep)))])
  | _, _ => none)
/-- Where the first of them stands. -/
def ixI : List Int → Int → Nat → Int
  | [], _, _ => -1
  | x :: xs, c, i => cond (c == x) (i : Int) (ixI xs c (i + 1))
noncomputable def k_IdxI : Nat × Con := (n_slices_Index, fun
  | [.lf (.lst 3 xs), .lf (.int .i64 c)], [] => some (Nat.ble xs.length 1000, [.int .i64 (ixI (xs.map (cI 0)) c 0)])
  | _, _ => none)
noncomputable def k_ContI : Nat × Con := (n_slices_Contains, fun
  | [.lf (.lst 3 xs), .lf (.int .i64 c)], [] => some (Nat.ble xs.length 1000, [.bool (decide (c ∈ xs.map (cI 0)))])
  | _, _ => none)
/-- Of a right expression of at most a thousand nodes. -/
noncomputable def cX1t (n : Nat) (f : Rx → List L) : Con
  | [.agg [.int .i64 a0, .lst 48 a1, .int .i64 a2, .int .i64 a3, .lst 25 a4]], [] =>
    some (isX [.int .i64 a0, .lst 48 a1, .int .i64 a2, .int .i64 a3, .lst 25 a4] n && ((nodeS (decX [.int .i64 a0, .lst 48 a1, .int .i64 a2, .int .i64 a3, .lst 25 a4]) == 0) && Nat.ble (decX [.int .i64 a0, .lst 48 a1, .int .i64 a2, .int .i64 a3, .lst 25 a4]).nodes 1000),
      f (decX [.int .i64 a0, .lst 48 a1, .int .i64 a2, .int .i64 a3, .lst 25 a4]))
  | _, _ => none
noncomputable def k_text (n : Nat) : Nat × Con := (n_regex_text, cX1t n fun x => [.str (mk (textP x).1), .bool (textP x).2])
noncomputable def isXt (xs : List (List L)) (n : Nat) : Bool := open Classical in decide (∃ l : List Rx, xs = l.map encX ∧ (∀ x ∈ l, x.ok ∧ x.lev ≤ n ∧ nodeS x = 0) ∧ nodesL l ≤ 1000)
noncomputable def k_parts (n : Nat) : Nat × Con := (n_regex_parts, fun
  | [.lf (.lst 25 xs), .lf (.lst 3 ks)], [] => some (isXt xs n && Nat.ble ks.length 1000, [.lst 9 (encS ((textL (ks.map (cI 0)) (decXs xs)).getD [])), .bool (textL (ks.map (cI 0)) (decXs xs)).isSome])
  | _, _ => none)
noncomputable def k_Print : Nat × Con := (n_regex_Print, cX1 1000000000000 fun x => [.str (mk (printP x).1), .int .i64 (printP x).2])
end Go.Ab
