/- The numbers of the functions, the named points, the contracts' frame. -/
import Derived.Test.YtnalffdkchhcoaaGreatDoorPartAb3
import Derived.Test.YtnalffdkchhcoaaGreatDoorProg
import Derived.KernelRfl
import Derived.Lib.ItoaNum
import Derived.WalkSpells
import Derived.Tactics
import Derived.Tactics2
import Derived.Laws.Pointers
import Derived.Carry
import Derived.Shelf.Strings.Builder1
import Derived.WalkKit
import Derived.StillTactics
import Derived.Shelf.Strings.Builder2
import Derived.Shelf.Strings.OnBuilder
import Derived.Shelf.Small.Strs
import Derived.Shelf.Utf8.RuneCount
import Derived.Shelf.Strconv.Itoa0
import Derived.Shelf.Strconv.Itoa1
import Derived.Shelf.LaysM
import Derived.Shelf.Strconv.Itoa2
import Derived.Shelf.Strconv.Itoa3
import Derived.Shelf.Strings.Search1
import Derived.Shelf.Strings.Search2
import Derived.Shelf.Strings.Search3
import Derived.Shelf.Strings.Cut
import Derived.Shelf.Strings.Count
import Derived.Shelf.Strings.Shaped
import Derived.Shelf.Strings.Prefix
import Derived.Shelf.Strings.Split
import Derived.Shelf.Strings.SplitShaped
import Derived.Shelf.Unicode.Decode
import Derived.Shelf.Strings.RuneCount
import Derived.Shelf.Strings.Explode
import Derived.Shelf.Unicode.DecodeSlow
import Derived.Shelf.Unicode.DecodeAny
namespace Go.Ab
open Go.Proofs
abbrev n_main_main : Nat := 0
abbrev n_gosem_cut : Nat := 1
abbrev n_gosem_cut_init : Nat := 2
abbrev n_codesearchlaw54_ScriptParses : Nat := 3
abbrev n_codesearchlaw54_ScriptReplies : Nat := 4
abbrev n_codesearchlaw54_ScriptPrints : Nat := 5
abbrev n_codesearchlaw54_ScriptBack : Nat := 6
abbrev n_codesearchlaw54_alive : Nat := 7
abbrev n_script_Parse : Nat := 8
abbrev n_codesearchref54_Parse : Nat := 9
abbrev n_codesearchref54_SameList : Nat := 10
abbrev n_script_Reply : Nat := 11
abbrev n_codesearchref54_Reply : Nat := 12
abbrev n_codesearchlaw54_small : Nat := 13
abbrev n_script_Print : Nat := 14
abbrev n_codesearchref54_Print : Nat := 15
abbrev n_script_Line : Nat := 16
abbrev n_codesearchref54_Line : Nat := 17
abbrev n_strings_Split : Nat := 18
abbrev n_script_event : Nat := 19
abbrev n_codesearchref01_Lines : Nat := 20
abbrev n_codesearchref54_Read : Nat := 21
abbrev n_codesearchref54_Same : Nat := 22
abbrev n_strconv_Itoa : Nat := 23
abbrev n_strings_Join : Nat := 24
abbrev n_codesearchref54_Number : Nat := 25
abbrev n_strings_Builder_WriteString : Nat := 26
abbrev n_strings_Builder_String : Nat := 27
abbrev n_script_commands : Nat := 28
abbrev n_script_Line_1 : Nat := 29
abbrev n_script_Line_2 : Nat := 30
abbrev n_script_listed : Nat := 31
abbrev n_script_quote : Nat := 32
abbrev n_strings_Contains : Nat := 33
abbrev n_script_same : Nat := 34
abbrev n_codesearchref54_name : Nat := 35
abbrev n_codesearchref54_tail : Nat := 36
abbrev n_strings_genSplit : Nat := 37
abbrev n_strings_Cut : Nat := 38
abbrev n_script_lists : Nat := 39
abbrev n_script_reader_number : Nat := 40
abbrev n_script_reader_text : Nat := 41
abbrev n_script_reader_word : Nat := 42
abbrev n_codesearchref01_Starts : Nat := 43
abbrev n_codesearchref01_stop : Nat := 44
abbrev n_codesearchref54_command : Nat := 45
abbrev n_codesearchref54_event : Nat := 46
abbrev n_internal_strconv_Itoa : Nat := 47
abbrev n_strings_Builder_Grow : Nat := 48
abbrev n_strings_Builder_copyCheck : Nat := 49
abbrev n_strings_NewReplacer : Nat := 50
abbrev n_strings_Replacer_Replace : Nat := 51
abbrev n_strings_Index : Nat := 52
abbrev n_slices_Equal : Nat := 53
abbrev n_slices_Equal_54 : Nat := 54
abbrev n_slices_Equal_55 : Nat := 55
abbrev n_slices_Equal_56 : Nat := 56
abbrev n_codesearchref54_quote : Nat := 57
abbrev n_codesearchref54_rules : Nat := 58
abbrev n_strings_explode : Nat := 59
abbrev n_strings_Count : Nat := 60
abbrev n_internal_stringslite_Cut : Nat := 61
abbrev n_script_reader_more : Nat := 62
abbrev n_script_reader_raw : Nat := 63
abbrev n_strings_TrimPrefix : Nat := 64
abbrev n_script_reader_next : Nat := 65
abbrev n_strings_Builder_Len : Nat := 66
abbrev n_strings_IndexByte : Nat := 67
abbrev n_strings_Builder_WriteByte : Nat := 68
abbrev n_codesearchref54_args_word : Nat := 69
abbrev n_codesearchref54_args_number : Nat := 70
abbrev n_codesearchref54_args_writes : Nat := 71
abbrev n_codesearchref54_args_group : Nat := 72
abbrev n_codesearchref54_args_rules : Nat := 73
abbrev n_codesearchref54_args_text : Nat := 74
abbrev n_internal_strconv_FormatInt : Nat := 75
abbrev n_strings_Builder_grow : Nat := 76
abbrev n_internal_abi_NoEscape : Nat := 77
abbrev n_sync_Once_Do : Nat := 78
abbrev n_strings_Replacer_buildOnce : Nat := 79
abbrev n_internal_stringslite_Index : Nat := 80
abbrev n_unicode_utf8_RuneCountInString : Nat := 81
abbrev n_unicode_utf8_DecodeRuneInString : Nat := 82
abbrev n_internal_bytealg_CountString : Nat := 83
abbrev n_internal_stringslite_TrimPrefix : Nat := 84
abbrev n_internal_stringslite_IndexByte : Nat := 85
abbrev n_codesearchref54_args_next : Nat := 86
abbrev n_codesearchref54_args_more : Nat := 87
abbrev n_internal_strconv_small : Nat := 88
abbrev n_internal_strconv_numDigits : Nat := 89
abbrev n_internal_strconv_formatBase10 : Nat := 90
abbrev n_internal_strconv_formatBits : Nat := 91
abbrev n_internal_bytealg_MakeNoZero : Nat := 92
abbrev n_sync_atomic_Bool_Load : Nat := 93
abbrev n_sync_Once_doSlow : Nat := 94
abbrev n_strings_Replacer_build : Nat := 95
abbrev n_internal_bytealg_IndexString : Nat := 96
abbrev n_internal_bytealg_Cutover : Nat := 97
abbrev n_internal_bytealg_IndexRabinKarp : Nat := 98
abbrev n_unicode_utf8_decodeRuneInStringSlow : Nat := 99
abbrev n_internal_stringslite_HasPrefix : Nat := 100
abbrev n_internal_bytealg_IndexByteString : Nat := 101
abbrev n_internal_strconv_log10Pow2 : Nat := 102
abbrev n_math_bits_Len64 : Nat := 103
abbrev n_internal_strconv_bool2 : Nat := 104
abbrev n_internal_strconv_isPowerOfTwo : Nat := 105
abbrev n_math_bits_TrailingZeros : Nat := 106
abbrev n_sync_atomic_LoadUint32 : Nat := 107
abbrev n_sync_Mutex_Lock : Nat := 108
abbrev n_sync_Mutex_Unlock : Nat := 109
abbrev n_sync_atomic_Bool_Store : Nat := 110
abbrev n_strings_makeSingleStringReplacer : Nat := 111
abbrev n_strings_makeGenericReplacer : Nat := 112
abbrev n_internal_bytealg_hashStr : Nat := 113
abbrev n_math_bits_TrailingZeros32 : Nat := 114
abbrev n_math_bits_TrailingZeros64 : Nat := 115
abbrev n_internal_sync_Mutex_Lock : Nat := 116
abbrev n_internal_sync_Mutex_Unlock : Nat := 117
abbrev n_sync_atomic_StoreUint32 : Nat := 118
abbrev n_sync_atomic_b32 : Nat := 119
abbrev n_strings_makeStringFinder : Nat := 120
abbrev n_strings_trieNode_add : Nat := 121
abbrev n_internal_race_Disable : Nat := 122
abbrev n_sync_atomic_CompareAndSwapInt32 : Nat := 123
abbrev n_internal_race_Enable : Nat := 124
abbrev n_internal_race_Acquire : Nat := 125
abbrev n_internal_sync_Mutex_lockSlow : Nat := 126
abbrev n_internal_race_ReleaseMerge : Nat := 127
abbrev n_sync_atomic_AddInt32 : Nat := 128
abbrev n_internal_sync_Mutex_unlockSlow : Nat := 129
abbrev n_strings_HasPrefix : Nat := 130
abbrev n_strings_longestCommonSuffix : Nat := 131
abbrev n_internal_sync_runtime_canSpin : Nat := 132
abbrev n_internal_sync_runtime_doSpin : Nat := 133
abbrev n_internal_sync_throw : Nat := 134
abbrev n_internal_sync_runtime_nanotime : Nat := 135
abbrev n_internal_sync_runtime_SemacquireMutex : Nat := 136
abbrev n_internal_sync_fatal : Nat := 137
abbrev n_internal_sync_runtime_Semrelease : Nat := 138
abbrev n_runtime_boundsError_Error : Nat := 139
abbrev n_runtime_boundsError_RuntimeError : Nat := 140
abbrev n_runtime_errorString_Error : Nat := 141
abbrev n_runtime_errorString_RuntimeError : Nat := 142
abbrev n_runtime_plainError_Error : Nat := 143
abbrev n_runtime_plainError_RuntimeError : Nat := 144
abbrev n_runtime_errorAddressString_Error : Nat := 145
abbrev n_runtime_errorAddressString_RuntimeError : Nat := 146
abbrev n_runtime_TypeAssertionError_Error : Nat := 147
abbrev n_runtime_TypeAssertionError_RuntimeError : Nat := 148
abbrev n_runtime_PanicNilError_Error : Nat := 149
abbrev n_runtime_PanicNilError_RuntimeError : Nat := 150
abbrev n_internal_abi_Type_Align : Nat := 151
abbrev n_internal_runtime_maps_unhashableTypeError_Error : Nat := 152
abbrev n_internal_runtime_maps_unhashableTypeError_RuntimeError : Nat := 153
abbrev n_api_Errno_Error : Nat := 154
abbrev n_strings_Builder_Reset : Nat := 155
abbrev n_strings_singleStringReplacer_Replace : Nat := 156
abbrev n_strings_singleStringReplacer_WriteString : Nat := 157
abbrev n_strings_stringFinder_next : Nat := 158
abbrev n_strings_genericReplacer_Replace : Nat := 159
abbrev n_strings_genericReplacer_WriteString : Nat := 160
abbrev n_strings_getStringWriter : Nat := 161
abbrev n_strings_genericReplacer_lookup : Nat := 162
abbrev n_strings_byteReplacer_Replace : Nat := 163
abbrev n_strings_byteReplacer_WriteString : Nat := 164
abbrev n_strings_byteStringReplacer_Replace : Nat := 165
abbrev n_strings_byteStringReplacer_WriteString : Nat := 166
abbrev n_internal_abi_Kind_String : Nat := 167
abbrev n_strings_appendSliceWriter_Write : Nat := 168
abbrev n_strings_appendSliceWriter_WriteString : Nat := 169
abbrev n_strings_stringWriter_WriteString : Nat := 170
abbrev n_strings_Builder_Write : Nat := 171
abbrev n_strings_Replacer_WriteString : Nat := 172
abbrev n_var_s_door_gosem_cut_vars_holds_initialisers_alone_see_the_manifest_s_row_cutvarsword_look_11_test_files_too : Nat := 173
abbrev n_var_s_door_internal_strconv_uint64pow10_is_laid_by_its_own_initialiser_plain_data_look_11 : Nat := 174
abbrev n_var_s_door_math_bits_deBruijn32tab_is_laid_by_its_own_initialiser_plain_data_look_11 : Nat := 175
abbrev n_var_s_door_math_bits_deBruijn64tab_is_laid_by_its_own_initialiser_plain_data_look_11 : Nat := 176
abbrev n_var_s_door_the_look_of_gosem_cut_vars_went_over_the_folder_that_the_caller_named_as_the_repository_s_root_look_11 : Nat := 177
abbrev n_var_s_door_unicode_utf8_acceptRanges_is_laid_by_its_own_initialiser_plain_data_look_11 : Nat := 178
abbrev n_var_s_door_unicode_utf8_first_is_laid_by_its_text_alone_pinned_1 : Nat := 179
abbrev n_gosem_cut_vars : Nat := 180
def ptsL : List (Nat × List (Nat × List Nat)) := [
  (5, [(10, [0, 7])]),
  (8, [(5, [5, 14, 15, 16])]),
  (9, [(6, [5, 6, 7])]),
  (10, [(4, [0, 1, 5])]),
  (11, [(9, [3, 5, 32, 33, 34]), (14, [5, 52, 53, 54])]),
  (12, [(9, [3, 5, 6]), (13, [3, 5, 7])]),
  (13, [(4, [0, 3]), (10, [0, 3, 4, 5]), (15, [0, 3, 4, 6]), (20, [0, 3, 4, 7])]),
  (14, [(3, [4, 9, 10, 11])]),
  (15, [(3, [0, 4, 5])]),
  (16, [(3, [1, 4, 13]), (48, [1, 4])]),
  (19, [(7, [2, 7, 9, 10])]),
  (20, [(4, [0, 3, 4, 5])]),
  (21, [(2, [0, 2, 4])]),
  (22, [(6, [2, 3, 5]), (11, [2, 3, 6]), (16, [2, 3, 7]), (21, [2, 3, 8])]),
  (24, [(12, [0, 1, 5, 39, 40, 41]), (22, [1, 8, 63, 64, 65])]),
  (31, [(16, [1, 56, 57, 58]), (25, [1, 2, 3, 88, 89, 90]), (31, [1, 104, 105, 106]), (11, [1, 19, 20, 21])]),
  (36, [(10, [1, 7, 8]), (26, [1, 10, 11]), (30, [1, 10, 12]), (2, [1, 3, 4, 5, 6])]),
  (37, [(11, [0, 1, 2, 3, 9, 10])]),
  (39, [(10, [0, 1]), (19, [0, 1]), (1, [0, 1])]),
  (40, [(8, [0, 3, 4, 5, 31, 32])]),
  (41, [(6, [0, 3, 4])]),
  (42, [(5, [0, 3, 18, 19])]),
  (43, [(3, [0, 3, 4])]),
  (44, [(2, [0, 5])]),
  (45, [(3, [0, 3, 4])]),
  (53, [(4, [0, 1, 12, 13])]),
  (54, [(4, [0, 1, 12, 13])]),
  (55, [(4, [0, 1, 12, 13])]),
  (56, [(4, [0, 1, 12, 13])]),
  (57, [(3, [0, 3, 4])]),
  (58, [(3, [0, 3, 4])]),
  (59, [(6, [0, 1, 6, 7])]),
  (60, [(6, [0, 1, 5])]),
  (69, [(3, [0, 3])]),
  (70, [(11, [0, 4, 5, 6, 7])]),
  (71, [(2, [0, 3])]),
  (72, [(2, [0, 2, 3])]),
  (73, [(2, [0, 3])]),
  (74, [(7, [0, 3, 4])]),
  (80, [(15, [0, 1, 5, 6, 7, 8, 9, 10])]),
  (81, [(2, [2, 4])]),
  (90, [(1, [0, 1, 4])]),
  (91, [(11, [0, 1, 3, 4, 10, 11, 12, 13, 14, 15, 16]), (18, [0, 1, 3, 4, 10, 11, 12, 13, 17])]),
  (95, [(6, [3, 4, 5]), (15, [3, 6, 61]), (20, [3, 6, 8]), (28, [3, 11, 12])]),
  (98, [(5, [0, 1, 5, 6, 7, 8, 9]), (11, [0, 1, 5, 6, 7, 8, 10])]),
  (112, [(3, [0, 3, 4]), (7, [0, 3, 4, 5, 6]), (11, [0, 3, 40, 41]), (17, [0, 3, 9, 57, 58]), (26, [0, 3, 12])]),
  (113, [(3, [0, 4, 5]), (8, [4, 6, 7, 8])]),
  (120, [(4, [0, 3, 4, 20]), (9, [0, 3, 4, 6]), (14, [0, 3, 4, 7, 8]), (20, [0, 3, 4, 9])]),
  (121, [(6, [0, 1, 2, 3, 4, 10])]),
  (126, [(5, [0, 2, 3, 4, 5, 6])]),
  (129, [(4, [0, 4])]),
  (131, [(1, [0, 1, 4])]),
  (156, [(3, [0, 1, 5, 6, 7])]),
  (157, [(3, [0, 2, 6, 8, 9])]),
  (158, [(2, [0, 1, 5]), (4, [0, 1, 5, 6])]),
  (160, [(5, [0, 2, 6, 7, 8, 9, 11, 12])]),
  (162, [(4, [0, 1, 2, 6, 7, 8, 9, 10, 11])]),
  (163, [(3, [0, 1, 5, 6])]),
  (164, [(4, [0, 1, 2, 6, 8, 9, 10])]),
  (165, [(5, [0, 1, 5, 6, 30, 31, 32]), (13, [0, 1, 5, 6, 10]), (24, [0, 1, 12, 13, 14])]),
  (166, [(4, [0, 1, 2, 6, 7, 8, 9, 10])])]
def ownL : List Nat := []
def wrL : List Nat := []
def matL : List Nat := []
def slfL : List Nat := [69]
def tabsL : List (String × (Array Value → Prop)) := [("internal/strconv.uint64pow10", fun cs => cs = (Lib.pow10Tab.map fun z => Value.int .u64 z).toArray), ("internal/bytealg.MaxLen", fun cs => ∃ m, cs = #[Value.int .i64 m])]
def mvL : List Nat := []
def fgtL : List Nat := []
def rdL : List Nat := [42, 34, 56, 54]
noncomputable def cfg (xs : List (Nat × Con)) : Cfg := { P := Tryz.prog, pts := lookP ptsL, own := memN ownL, ext := look xs, wrA := memN wrL, matT := memN matL, fgt := memN fgtL, mvA := memN mvL, tabs := tabsL, slfT := memN slfL }
noncomputable def cfgR (xs : List (Nat × Con)) : Cfg := { P := Tryz.prog, pts := lookP ptsL, own := memN ownL, ext := look xs, wrA := memN wrL, matT := memN matL, fgt := memN fgtL, mvA := memN mvL, tabs := tabsL, slfT := memN slfL, rdT := memN rdL }
theorem noCount : NoCount Tryz.prog := by
  intro f fn h
  have hall : (Tryz.prog.funcs.toList.all fun fn => !(fn.name == "runtime.NumGoroutine")) = true := by kernel_rfl
  have hm : fn ∈ Tryz.prog.funcs.toList := Array.mem_toList_iff.2 (Array.mem_of_getElem? h)
  have := List.all_eq_true.1 hall fn hm
  simpa using this
theorem mixed : Tryz.prog.follows .mixedOrders = true := by kernel_rfl
theorem cfg_ext {xs : List (Nat × Con)} (h : ∀ p ∈ xs, ExtFor (cfg xs) p.1 p.2) : ExtOk (cfg xs) := extOk_of fun f S hf => h (f, S) (look_mem hf)
theorem con_to {xs ys : List (Nat × Con)} {f : FuncId} {S : Con} (h : ExtFor (cfg xs) f S) : ExtFor (cfg ys) f S := h.to rfl rfl rfl
def Holds (p : Nat × Con) : Prop := ExtFor (cfg []) p.1 p.2
theorem con_run {xs : List (Nat × Con)} (hx : ∀ p ∈ xs, Holds p) {f : FuncId} {S : Con} (h : ∀ aa hp r, S aa hp = some (true, r) → Runs (cfg xs) (.enter f aa hp) r) : Holds (f, S) :=
  con_to (extFor_run (C := cfg xs) (cfg_ext fun p hp => con_to (hx p hp)) noCount mixed h)
theorem con_toR {xs ys : List (Nat × Con)} {f : FuncId} {S : Con} (h : ExtFor (cfg xs) f S) : ExtFor (cfgR ys) f S := h.to rfl rfl rfl
theorem con_ofR {xs ys : List (Nat × Con)} {f : FuncId} {S : Con} (h : ExtFor (cfgR xs) f S) : ExtFor (cfg ys) f S := h.to rfl rfl rfl
theorem cfgR_ext {xs : List (Nat × Con)} (h : ∀ p ∈ xs, ExtFor (cfgR xs) p.1 p.2) : ExtOk (cfgR xs) := extOk_of fun f S hf => h (f, S) (look_mem hf)
theorem con_runR {xs : List (Nat × Con)} (hx : ∀ p ∈ xs, Holds p) {f : FuncId} {S : Con} (h : ∀ aa hp r, S aa hp = some (true, r) → Runs (cfgR xs) (.enter f aa hp) r) : Holds (f, S) :=
  con_ofR (extFor_run (C := cfgR xs) (cfgR_ext fun p hp => con_toR (hx p hp)) noCount mixed h)
theorem hold0 : ∀ p ∈ ([] : List (Nat × Con)), Holds p := fun _ h => by cases h
theorem hold1 {a : Nat × Con} {l : List (Nat × Con)} (h : Holds a) (hl : ∀ p ∈ l, Holds p) : ∀ p ∈ a :: l, Holds p := fun p hp => by
  rcases List.mem_cons.1 hp with rfl | hp
  · exact h
  · exact hl p hp
end Go.Ab
namespace Go.Ab
open Go.Proofs

abbrev W := List UInt8
def sm (n : Nat) : Bool := Nat.ble n 1000000
theorem sm_of {n : Nat} (h : sm n = true) : n ≤ 1000000 := Nat.le_of_ble_eq_true h
theorem sm_t {n : Nat} (h : n ≤ 1000000) : sm n = true := Nat.ble_eq_true_of_le h

def conRd (g : W → Bool → Bool) (f : W → Bool → List L) : Con
  | [.lf (.ptr 0 0)], [.box [.str, .bool] [.str s, .bool b]] => some (g (bl s) b, f (bl s) b)
  | _, _ => none
theorem conRd_of {ks : List (Nat × Con)} {n : Nat} {g : W → Bool → Bool} {f : W → Bool → List L} (hx : ∀ p ∈ ks, Holds p) (h : ∀ (s : W) (b : Bool), g s b = true → Runs (cfg ks) (.enter n [.lf (.ptr 0 0)] [.box [.str, .bool] [.str (mk s), .bool b]]) (f s b)) : Holds (n, conRd g f) :=
  con_run hx fun aa hp r h0 => by
    unfold conRd at h0
    split at h0
    · obtain ⟨g0, rfl⟩ := xo h0
      exact h (bl _) _ g0
    · cases h0
def conT (g : W → Bool) (f : W → List L) : Con
  | [.lf (.str xs)], [] => some (g (bl xs), f (bl xs))
  | _, _ => none
theorem conT_of {ks : List (Nat × Con)} {n : Nat} {g : W → Bool} {f : W → List L} (hx : ∀ p ∈ ks, Holds p) (h : ∀ (x : W), g x = true → Runs (cfg ks) (.enter n [.lf (.str (mk x))] []) (f x)) : Holds (n, conT g f) :=
  con_run hx fun aa hp r h0 => by
    unfold conT at h0
    split at h0
    · obtain ⟨g0, rfl⟩ := xo h0
      exact h (bl _) g0
    · cases h0

def isBlk (s : W) : Bool := match s with
  | c :: _ => c.toNat == 32
  | [] => false
def nxO (s : W) (b : Bool) : Bool := !b && isBlk s
def nxS (s : W) (b : Bool) : W := cond (nxO s b) (s.drop 1) s
def stR (s : W) (b : Bool) : List L := [.str (mk s), .bool b]
def k_pnext : Nat × Con := (n_script_reader_next, conRd (fun _ _ => true) fun s b => .bool (nxO s b) :: stR (nxS s b) (!nxO s b))
def k_pmore : Nat × Con := (n_script_reader_more, conRd (fun _ _ => true) fun s b => .bool (!b && !s.isEmpty) :: stR s b)
def upB (t : W) : W := t.takeWhile fun c => !(c.toNat == 32)
def rwW (s : W) (b : Bool) : W := cond (nxO s b) (upB (s.drop 1)) []
def rwS (s : W) (b : Bool) : W := cond (nxO s b) ((s.drop 1).drop (upB (s.drop 1)).length) s
def k_raw : Nat × Con := (n_script_reader_raw, conRd (fun s _ => sm s.length) fun s b => .str (mk (rwW s b)) :: stR (rwS s b) (!nxO s b))
def isVis (c : UInt8) : Bool := Nat.ble 33 c.toNat && Nat.ble c.toNat 126
def wdOk (w : W) : Bool := Nat.ble 1 w.length && (Nat.ble w.length 60 && w.all isVis)
def k_pword : Nat × Con := (n_script_reader_word, conRd (fun s _ => sm s.length) fun s b => .str (mk (rwW s b)) :: stR (rwS s b) (!(nxO s b && wdOk (rwW s b))))
def k_Cut : Nat × Con := (n_strings_Cut, fun
  | [.lf (.str s), .lf (.str p)], [] => some (Nat.ble s.size 1000000 && (bl p == [32]), [.str (mk (upB (bl s))), .str (mk ((bl s).drop ((upB (bl s)).length + 1))), .bool (Nat.blt (upB (bl s)).length s.size)])
  | _, _ => none)

def anS (s : W) : W := cond (isBlk s) (s.drop 1) []
def anB (s : W) (b : Bool) : Bool := b || !isBlk s
def k_anext : Nat × Con := (n_codesearchref54_args_next, conRd (fun _ _ => true) fun s b => stR (anS s) (anB s b))
def k_amore : Nat × Con := (n_codesearchref54_args_more, conRd (fun _ _ => true) fun s b => .bool (!b && !s.isEmpty) :: stR s b)
def vis (t : W) : W := t.takeWhile isVis
def awOk (w : W) : Bool := Nat.ble 1 w.length && Nat.ble w.length 60
def k_aword : Nat × Con := (n_codesearchref54_args_word, conRd (fun s _ => sm s.length) fun s b => .str (mk (vis (anS s))) :: stR ((anS s).drop (vis (anS s)).length) (anB s b || !awOk (vis (anS s))))
end Go.Ab
namespace Go.Ab
open Go.Proofs
def k_hasP : Nat × Con := (n_internal_stringslite_HasPrefix, fun
  | [.lf (.str s), .lf (.str p)], [] => some (Nat.ble s.size 1000000000 && Nat.ble p.size 1000000000, [.bool ((bl p).isPrefixOf (bl s))])
  | _, _ => none)
def isMin (w : W) : Bool := match w with
  | c :: _ => c.toNat == 45
  | [] => false
def digs (w : W) : W := cond (isMin w) (w.drop 1) w
def k_trim2 : Nat × Con := (n_internal_stringslite_TrimPrefix, fun
  | [.lf (.str s), .lf (.str p)], [] => some (Nat.ble s.size 1000000 && (bl p == [45]), [.str (mk (digs (bl s)))])
  | _, _ => none)
def k_trim : Nat × Con := (n_strings_TrimPrefix, k_trim2.2)
def isDg (c : UInt8) : Bool := Nat.ble 48 c.toNat && Nat.ble c.toNat 57
def numV (s : W) : Nat := s.foldl (fun n c => 10 * n + (c.toNat - 48)) 0
def numOk (w : W) : Bool := Nat.ble 1 (digs w).length && (Nat.ble (digs w).length 9 && (!(((digs w).getD 0 0).toNat == 48 && !decide (w = [48])) && (digs w).all isDg))
def numZ (w : W) : Int := cond (isMin w) (-(numV (digs w) : Nat)) (numV (digs w) : Nat)
def numR (w : W) : Int := cond (numOk w) (numZ w) 0
def k_pnum : Nat × Con := (n_script_reader_number, conRd (fun s _ => sm s.length) fun s b => .int .i64 (numR (rwW s b)) :: stR (rwS s b) (!(nxO s b && numOk (rwW s b))))
def anW (s : W) : W := vis (anS s)
def anR (s : W) : W := (anS s).drop (anW s).length
def k_anum : Nat × Con := (n_codesearchref54_args_number, conRd (fun s _ => sm s.length) fun s b => .int .i64 (numR (anW s)) :: stR (anR s) (anB s b || (!awOk (anW s) || !numOk (anW s))))
end Go.Ab
namespace Go.Ab
open Go.Proofs

def eB (l : List UInt8) : List (List L) := l.map fun b => [.int .u8 b.toNat]
def dB (xs : List (List L)) : List UInt8 := xs.map fun e => UInt8.ofNat (cI 0 e).toNat
theorem dB_e (l : List UInt8) : dB (eB l) = l := by
  unfold dB eB
  rw [List.map_map]
  exact List.map_id'' (fun b => by
    show UInt8.ofNat (Int.toNat (b.toNat : Int)) = b
    rw [Int.toNat_natCast, UInt8.ofNat_toNat]) l
theorem eB_len (l : W) : (eB l).length = l.length := List.length_map ..
open Classical in
noncomputable def isBy (xs : List (List L)) : Bool := decide (eB (dB xs) = xs)
theorem isBy_e (l : List UInt8) : isBy (eB l) = true := by
  unfold isBy
  rw [dB_e]
  simp
theorem isBy_of {xs : List (List L)} (h : isBy xs = true) : ∃ l, xs = eB l := by
  unfold isBy at h
  have h' : eB (dB xs) = xs := by simpa using h
  exact ⟨_, h'.symm⟩
theorem bytesOf_e (s : ByteArray) : bytesOf s = eB (bl s) := rfl
theorem eB_app (a b : List UInt8) : eB a ++ eB b = eB (a ++ b) := (List.map_append ..).symm
def k_cc : Nat × Con := (n_strings_Builder_copyCheck, fun
  | [.lf (.ptr 0 0)], [.box [.oth, .sl 5] [.slf 0 0, .row 1], .row 5 xs true] => some (true, [.any, .lst 5 xs])
  | _, _ => none)
noncomputable def k_ws : Nat × Con := (n_strings_Builder_WriteString, fun
  | [.lf (.ptr 0 0), .lf (.str s)], [.box [.oth, .sl 5] [.slf 0 0, .row 1], .row 5 xs true] => some (isBy xs && Nat.ble (xs.length + s.size) 100000000000, [.int .i64 s.size, .any, .any, .lst 5 (xs ++ bytesOf s)])
  | _, _ => none)
noncomputable def k_wb : Nat × Con := (n_strings_Builder_WriteByte, fun
  | [.lf (.ptr 0 0), .lf (.int .u8 c)], [.box [.oth, .sl 5] [.slf 0 0, .row 1], .row 5 xs true] => some (isBy xs && Nat.ble xs.length 100000000000, [.any, .any, .lst 5 (xs ++ [[.int .u8 c]])])
  | _, _ => none)
noncomputable def k_len : Nat × Con := (n_strings_Builder_Len, fun
  | [.lf (.ptr 0 0)], [.box [.oth, .sl 5] [.slf 0 0, .row 1], .row 5 xs true] => some (Nat.ble xs.length 100000000000, [.int .i64 xs.length, .any, .lst 5 xs])
  | _, _ => none)
noncomputable def k_bs : Nat × Con := (n_strings_Builder_String, fun
  | [.lf (.ptr 0 0)], [.box [.oth, .sl 5] [.slf 0 0, .row 1], .row 5 xs true] => some (isBy xs && Nat.ble xs.length 100000000000, [.str (mk (dB xs)), .any, .any])
  | _, _ => none)
def kx (c : Int) : Int := if c = 34 then 0 else if c = 92 then 1 else if c = 110 then 2 else if c = 116 then 3 else -1
def k_IndexByte2 : Nat × Con := (n_internal_stringslite_IndexByte, fun
  | [.lf (.str s), .lf (.int .u8 c)], [] => some (bl s == [34, 92, 110, 116] && (leI 0 c && leI c 255), [.int .i64 (kx c)])
  | _, _ => none)
def k_IndexByte : Nat × Con := (n_strings_IndexByte, k_IndexByte2.2)

def esc (d : UInt8) : Option UInt8 := if d.toNat = 34 then some 34 else if d.toNat = 92 then some 92 else if d.toNat = 110 then some 10 else if d.toNat = 116 then some 9 else none
def txt : W → W → Option (W × W)
  | [], _ => none
  | [c], acc => if c.toNat = 34 then some (acc, []) else none
  | c :: d :: t, acc => if c.toNat = 34 then some (acc, d :: t) else if c.toNat < 32 ∨ 126 < c.toNat then none else if c.toNat = 92 then (match esc d with
      | some e => txt t (acc ++ [e])
      | none => none) else txt (d :: t) (acc ++ [c])
def txq (s : W) : Option (W × W) := match s with
  | c :: t => if c.toNat = 34 then txt t [] else none
  | [] => none
def tO (s : W) : Bool := (txq s).isSome
def tV (s : W) : W := match txq s with
  | some (o, _) => o
  | none => []
def tR (s : W) : W := match txq s with
  | some (_, r) => r
  | none => s
def sh (w : W) : Bool := Nat.ble w.length 2000
def ptO (s : W) (b : Bool) : Bool := nxO s b && tO (s.drop 1)
def ptV (s : W) (b : Bool) : W := cond (nxO s b) (tV (s.drop 1)) []
def ptS (s : W) (b : Bool) : W := cond (nxO s b) (tR (s.drop 1)) s
def k_ptext : Nat × Con := (n_script_reader_text, conRd (fun s _ => sm s.length) fun s b => .str (mk (ptV s b)) :: stR (ptS s b) (!(ptO s b && sh (ptV s b))))
def atO (s : W) : Bool := tO (anS s) && sh (tV (anS s))
def atV (s : W) : W := cond (atO s) (tV (anS s)) []
def atS (s : W) : W := cond (atO s) (tR (anS s)) (anS s)
def k_atext : Nat × Con := (n_codesearchref54_args_text, conRd (fun s _ => sm s.length) fun s b => .str (mk (atV s)) :: stR (atS s) (anB s b || !atO s))
end Go.Ab
namespace Go.Proofs
open Go.RowKit Go.Ab

def cmdsL : List (ByteArray × Int) := [(⟨#[114, 101, 112, 111]⟩, 22), (⟨#[99, 111, 109, 109, 105, 116]⟩, 1), (⟨#[98, 114, 97, 110, 99, 104]⟩, 2), (⟨#[100, 114, 111, 112]⟩, 3), (⟨#[102, 111, 114, 119, 97, 114, 100]⟩, 4), (⟨#[105, 110, 103, 101, 115, 116]⟩, 5), (⟨#[109, 101, 114, 103, 101]⟩, 6), (⟨#[103, 114, 111, 117, 112]⟩, 7), (⟨#[114, 117, 108, 101, 115]⟩, 8), (⟨#[115, 101, 97, 114, 99, 104]⟩, 9), (⟨#[115, 97, 118, 101]⟩, 10), (⟨#[102, 111, 114, 103, 101, 116]⟩, 11), (⟨#[110, 111, 116, 105, 102, 121]⟩, 12), (⟨#[100, 101, 108, 105, 118, 101, 114]⟩, 13), (⟨#[116, 105, 99, 107]⟩, 14), (⟨#[114, 101, 110, 101, 119]⟩, 15), (⟨#[115, 121, 110, 99]⟩, 16), (⟨#[99, 114, 97, 115, 104]⟩, 17), (⟨#[115, 116, 97, 114, 116]⟩, 18), (⟨#[115, 108, 111, 119]⟩, 19), (⟨#[112, 114, 117, 110, 101]⟩, 20), (⟨#[114, 101, 119, 114, 105, 116, 101]⟩, 21)]
def mpI (i : Nat) : Obj := .map (mapE (cmdsL.take i)) i
theorem mapEs_snoc : ∀ (es : List (ByteArray × Int)) (n : Nat) (p : ByteArray × Int), mapEs n (es ++ [p]) = mapEs n es ++ [{ key := .string p.1, val := .int .i64 p.2, born := n + es.length }]
  | [], n, p => rfl
  | q :: es, n, p => by
    rw [List.cons_append, mapEs, mapEs, mapEs_snoc es (n + 1) p, List.cons_append, List.length_cons]
    congr 4
    omega
theorem mapT75 : mapT Tryz.prog 75 = true := by kernel_rfl
theorem ins (w : World) (i : Nat) (k : ByteArray) (n : Int) (hi : cmdsL[i]? = some (k, n)) (hno : mapHas (cmdsL.take i) k = false) :
    (Instr.mapUpdate 75 (.map (some w.heap.size)) (.string k) (.int .i64 n)).run Tryz.prog (w.alloc (mpI i)) = .ok () (w.alloc (mpI (i + 1))) := by
  obtain ⟨kt, et, inf, hu, hk, _, _⟩ := mapT_of mapT75
  obtain ⟨j, hj⟩ := findNow_mapEs k (cmdsL.take i) 0 0
  rw [hno] at hj
  simp only [Bool.false_eq_true, if_false] at hj
  have hlt := (List.getElem?_eq_some_iff.1 hi).1
  have hlen : (cmdsL.take i).length = i := by rw [List.length_take]; omega
  have hnew : cmdsL.take (i + 1) = cmdsL.take i ++ [(k, n)] := by
    rw [List.take_add_one, hi]; rfl
  have hb : (w.alloc (mpI i)).heap[w.heap.size]? = some (.map (mapE (cmdsL.take i)) i) := by
    show (w.heap.push _)[w.heap.size]? = _
    simp [mpI]
  have hck : (Instr.checkKey false 10000 kt (.string k)).run Tryz.prog (w.alloc (mpI i)) = .ok () (w.alloc (mpI i)) := by
    rw [show (10000 : Nat) = 9999 + 1 from rfl, Instr.checkKey]
    simp [run_underlying hk]
  have hl : (mapE (cmdsL.take i)).toList = mapEs 0 (cmdsL.take i) := rfl
  have hset : (setObj w.heap.size (.map ((mapE (cmdsL.take i)).push { key := .string k, val := .int .i64 n, born := i }) (i + 1))).run Tryz.prog (w.alloc (mpI i)) = .ok () (w.alloc (mpI (i + 1))) := by
    have e : Obj.map ((mapE (cmdsL.take i)).push { key := .string k, val := .int .i64 n, born := i }) (i + 1) = mpI (i + 1) := by
      have h2 : mapE (cmdsL.take i ++ [(k, n)]) = (mapE (cmdsL.take i)).push { key := .string k, val := .int .i64 n, born := i } := by
        unfold mapE
        rw [mapEs_snoc, hlen]
        simp
      unfold mpI
      rw [hnew, h2]
    rw [e]
    simp only [setObj, Sem.run, hb]
    show Result.ok () ({ w.alloc (mpI i) with heap := (w.heap.push (mpI i)).setIfInBounds w.heap.size (mpI (i + 1)) } : World) = _
    have hp : (w.heap.push (mpI i)).setIfInBounds w.heap.size (mpI (i + 1)) = w.heap.push (mpI (i + 1)) := by
      apply Array.toList_inj.1
      simp
    rw [hp]
    rfl
  simp [Instr.mapUpdate, run_underlying hu, MapKept.run_getObj_map hb, hck, Instr.findKey, run_underlying hk, hl, hj, hset]

set_option maxHeartbeats 4000000 in
set_option maxRecDepth 100000 in
theorem commands_w (w : World) :
    Calls Tryz.prog 28 #[] w fun e w' => e = .returned (.map (some w.heap.size)) ∧ w' = w.alloc (mpI 22) := by
  have hmm : ∀ (t : TypeId) (w : World), (Instr.makeMap t none).run Tryz.prog w = .ok (.map (some w.heap.size)) (w.alloc (mpI 0)) := fun t w => run_makeMap t w
  have h0 : (Instr.mapUpdate 75 (.map (some w.heap.size)) (.string ⟨#[114, 101, 112, 111]⟩) (.int .i64 22)).run Tryz.prog (w.alloc (mpI 0)) = .ok () (w.alloc (mpI 1)) := ins w 0 _ _ (by kernel_rfl) (by kernel_rfl)
  have h1 : (Instr.mapUpdate 75 (.map (some w.heap.size)) (.string ⟨#[99, 111, 109, 109, 105, 116]⟩) (.int .i64 1)).run Tryz.prog (w.alloc (mpI 1)) = .ok () (w.alloc (mpI 2)) := ins w 1 _ _ (by kernel_rfl) (by kernel_rfl)
  have h2 : (Instr.mapUpdate 75 (.map (some w.heap.size)) (.string ⟨#[98, 114, 97, 110, 99, 104]⟩) (.int .i64 2)).run Tryz.prog (w.alloc (mpI 2)) = .ok () (w.alloc (mpI 3)) := ins w 2 _ _ (by kernel_rfl) (by kernel_rfl)
  have h3 : (Instr.mapUpdate 75 (.map (some w.heap.size)) (.string ⟨#[100, 114, 111, 112]⟩) (.int .i64 3)).run Tryz.prog (w.alloc (mpI 3)) = .ok () (w.alloc (mpI 4)) := ins w 3 _ _ (by kernel_rfl) (by kernel_rfl)
  have h4 : (Instr.mapUpdate 75 (.map (some w.heap.size)) (.string ⟨#[102, 111, 114, 119, 97, 114, 100]⟩) (.int .i64 4)).run Tryz.prog (w.alloc (mpI 4)) = .ok () (w.alloc (mpI 5)) := ins w 4 _ _ (by kernel_rfl) (by kernel_rfl)
  have h5 : (Instr.mapUpdate 75 (.map (some w.heap.size)) (.string ⟨#[105, 110, 103, 101, 115, 116]⟩) (.int .i64 5)).run Tryz.prog (w.alloc (mpI 5)) = .ok () (w.alloc (mpI 6)) := ins w 5 _ _ (by kernel_rfl) (by kernel_rfl)
  have h6 : (Instr.mapUpdate 75 (.map (some w.heap.size)) (.string ⟨#[109, 101, 114, 103, 101]⟩) (.int .i64 6)).run Tryz.prog (w.alloc (mpI 6)) = .ok () (w.alloc (mpI 7)) := ins w 6 _ _ (by kernel_rfl) (by kernel_rfl)
  have h7 : (Instr.mapUpdate 75 (.map (some w.heap.size)) (.string ⟨#[103, 114, 111, 117, 112]⟩) (.int .i64 7)).run Tryz.prog (w.alloc (mpI 7)) = .ok () (w.alloc (mpI 8)) := ins w 7 _ _ (by kernel_rfl) (by kernel_rfl)
  have h8 : (Instr.mapUpdate 75 (.map (some w.heap.size)) (.string ⟨#[114, 117, 108, 101, 115]⟩) (.int .i64 8)).run Tryz.prog (w.alloc (mpI 8)) = .ok () (w.alloc (mpI 9)) := ins w 8 _ _ (by kernel_rfl) (by kernel_rfl)
  have h9 : (Instr.mapUpdate 75 (.map (some w.heap.size)) (.string ⟨#[115, 101, 97, 114, 99, 104]⟩) (.int .i64 9)).run Tryz.prog (w.alloc (mpI 9)) = .ok () (w.alloc (mpI 10)) := ins w 9 _ _ (by kernel_rfl) (by kernel_rfl)
  have h10 : (Instr.mapUpdate 75 (.map (some w.heap.size)) (.string ⟨#[115, 97, 118, 101]⟩) (.int .i64 10)).run Tryz.prog (w.alloc (mpI 10)) = .ok () (w.alloc (mpI 11)) := ins w 10 _ _ (by kernel_rfl) (by kernel_rfl)
  have h11 : (Instr.mapUpdate 75 (.map (some w.heap.size)) (.string ⟨#[102, 111, 114, 103, 101, 116]⟩) (.int .i64 11)).run Tryz.prog (w.alloc (mpI 11)) = .ok () (w.alloc (mpI 12)) := ins w 11 _ _ (by kernel_rfl) (by kernel_rfl)
  have h12 : (Instr.mapUpdate 75 (.map (some w.heap.size)) (.string ⟨#[110, 111, 116, 105, 102, 121]⟩) (.int .i64 12)).run Tryz.prog (w.alloc (mpI 12)) = .ok () (w.alloc (mpI 13)) := ins w 12 _ _ (by kernel_rfl) (by kernel_rfl)
  have h13 : (Instr.mapUpdate 75 (.map (some w.heap.size)) (.string ⟨#[100, 101, 108, 105, 118, 101, 114]⟩) (.int .i64 13)).run Tryz.prog (w.alloc (mpI 13)) = .ok () (w.alloc (mpI 14)) := ins w 13 _ _ (by kernel_rfl) (by kernel_rfl)
  have h14 : (Instr.mapUpdate 75 (.map (some w.heap.size)) (.string ⟨#[116, 105, 99, 107]⟩) (.int .i64 14)).run Tryz.prog (w.alloc (mpI 14)) = .ok () (w.alloc (mpI 15)) := ins w 14 _ _ (by kernel_rfl) (by kernel_rfl)
  have h15 : (Instr.mapUpdate 75 (.map (some w.heap.size)) (.string ⟨#[114, 101, 110, 101, 119]⟩) (.int .i64 15)).run Tryz.prog (w.alloc (mpI 15)) = .ok () (w.alloc (mpI 16)) := ins w 15 _ _ (by kernel_rfl) (by kernel_rfl)
  have h16 : (Instr.mapUpdate 75 (.map (some w.heap.size)) (.string ⟨#[115, 121, 110, 99]⟩) (.int .i64 16)).run Tryz.prog (w.alloc (mpI 16)) = .ok () (w.alloc (mpI 17)) := ins w 16 _ _ (by kernel_rfl) (by kernel_rfl)
  have h17 : (Instr.mapUpdate 75 (.map (some w.heap.size)) (.string ⟨#[99, 114, 97, 115, 104]⟩) (.int .i64 17)).run Tryz.prog (w.alloc (mpI 17)) = .ok () (w.alloc (mpI 18)) := ins w 17 _ _ (by kernel_rfl) (by kernel_rfl)
  have h18 : (Instr.mapUpdate 75 (.map (some w.heap.size)) (.string ⟨#[115, 116, 97, 114, 116]⟩) (.int .i64 18)).run Tryz.prog (w.alloc (mpI 18)) = .ok () (w.alloc (mpI 19)) := ins w 18 _ _ (by kernel_rfl) (by kernel_rfl)
  have h19 : (Instr.mapUpdate 75 (.map (some w.heap.size)) (.string ⟨#[115, 108, 111, 119]⟩) (.int .i64 19)).run Tryz.prog (w.alloc (mpI 19)) = .ok () (w.alloc (mpI 20)) := ins w 19 _ _ (by kernel_rfl) (by kernel_rfl)
  have h20 : (Instr.mapUpdate 75 (.map (some w.heap.size)) (.string ⟨#[112, 114, 117, 110, 101]⟩) (.int .i64 20)).run Tryz.prog (w.alloc (mpI 20)) = .ok () (w.alloc (mpI 21)) := ins w 20 _ _ (by kernel_rfl) (by kernel_rfl)
  have h21 : (Instr.mapUpdate 75 (.map (some w.heap.size)) (.string ⟨#[114, 101, 119, 114, 105, 116, 101]⟩) (.int .i64 21)).run Tryz.prog (w.alloc (mpI 21)) = .ok () (w.alloc (mpI 22)) := ins w 21 _ _ (by kernel_rfl) (by kernel_rfl)
  go_enter Tryz.func28, Tryz.ntmps28
  go_wp2

  refine bodyPost_ret (results_tmp (t := 0) rfl _ _ _) rfl ?_
  exact ⟨rfl, rfl⟩
end Go.Proofs
namespace Go.Ab
open Go.Proofs
def k_commands : Nat × Con := (n_script_commands, fun
  | [], [] => some (true, [.mp cmdsL])
  | _, _ => none)
theorem rt28 : Tryz.f28.resultTypes = #[75] := by kernel_rfl
theorem kinds75 : kinds (cfg []).P 75 = [.mp] := by kernel_rfl
theorem agg75 : isAggT (cfg []).P 75 = false := by kernel_rfl
theorem commands_ext {C : Cfg} {fn : Func} (hf : C.P.funcs[(28 : Nat)]? = some fn) (hr : fn.resultTypes = #[75]) (hk : kinds C.P 75 = [.mp]) (hag : isAggT C.P 75 = false)
    (hw : ∀ w, Calls C.P 28 #[] w fun e w' => e = .returned (.map (some w.heap.size)) ∧ w' = w.alloc (mpI 22)) : ExtFor C 28 k_commands.2 := by
  intro aa hp r h w fz ρ S vs hT H ha
  simp only [k_commands] at h
  split at h
  case h_2 => cases h
  obtain ⟨_, rfl⟩ := xo h
  have hvs : vs = #[] := by
    have := ha.length
    simpa using this
  subst hvs
  refine (hw w).mono ?_
  rintro e w' ⟨rfl, rfl⟩
  let fz' : Fz := fun g o => fz g o ∨ (g = w.heap.size ∧ o = 0)
  have hold : ∀ k, k < w.heap.size → (w.alloc (mpI 22)).heap[k]? = w.heap[k]? := fun k hk => heap_alloc_old w _ hk
  have hlt : ∀ g o, fz g o → g < w.heap.size := H.lt
  have hm : (w.alloc (mpI 22)).heap[w.heap.size]? = some (.map (mapE cmdsL) cmdsL.length) := by
    show (w.heap.push _)[w.heap.size]? = _
    simp only [Array.getElem?_push_size]
    rfl
  have hsz : (w.alloc (mpI 22)).heap.size = w.heap.size + 1 := by
    show (w.heap.push _).size = _
    simp
  have hmv : Mv (fun k => S k ∨ w.heap.size ≤ k) w fz (w.alloc (mpI 22)) fz' :=
    ⟨rfl, rfl, rfl, by rw [hsz]; omega, fun k hk _ => hold k hk, fz_cell hlt hold, fun g o h => .inl h, fun g o h => h.elim .inl fun h => .inr (.inr (by rw [h.1]; exact Nat.le_refl _))⟩
  refine ⟨_, fz', rfl, hmv, fun g o h => ?_, fn, [.map (some w.heap.size)], [.map (some w.heap.size)], [], [], [], hf, rfl, ?_, ?_, ?_, by simp, by simp⟩
  · rw [hsz]
    rcases h with h | h
    · have := hlt g o h; omega
    · omega
  · simp only [hr, Vals]
    exact ⟨[.map (some w.heap.size)], [], rfl, by simp [hk], by simp [hk], by simp [hag], rfl⟩
  · simp only [hr, List.flatMap_cons, List.flatMap_nil, hk, List.append_nil, Bk, List.headD_cons]
    exact ⟨⟨_, rfl⟩, .mp _ _ hm (.inr ⟨rfl, rfl⟩), trivial⟩
  · simp [BxS]
theorem commands_holds : Holds k_commands := commands_ext (C := cfg []) Tryz.func28 rt28 kinds75 agg75 commands_w
end Go.Ab
namespace Go.Ab
open Go.Proofs
def pwB (s : W) (b : Bool) : Bool := !(nxO s b && wdOk (rwW s b))
def pnV (s : W) (b : Bool) : Int := numR (rwW s b)
def pnB (s : W) (b : Bool) : Bool := !(nxO s b && numOk (rwW s b))
def ptB (s : W) (b : Bool) : Bool := !(ptO s b && sh (ptV s b))
def c_pw : Nat × Con := (n_script_reader_word, conRd (fun s _ => sm s.length) fun s b => .str (mk (rwW s b)) :: stR (rwS s b) (pwB s b))
def c_pn : Nat × Con := (n_script_reader_number, conRd (fun s _ => sm s.length) fun s b => .int .i64 (pnV s b) :: stR (rwS s b) (pnB s b))
def c_pt : Nat × Con := (n_script_reader_text, conRd (fun s _ => sm s.length) fun s b => .str (mk (ptV s b)) :: stR (ptS s b) (ptB s b))
def awB (s : W) (b : Bool) : Bool := anB s b || !awOk (anW s)
def awN (s : W) : Int := numR (anW s)
def awNB (s : W) (b : Bool) : Bool := anB s b || (!awOk (anW s) || !numOk (anW s))
def awTB (s : W) (b : Bool) : Bool := anB s b || !atO s
def c_aw : Nat × Con := (n_codesearchref54_args_word, conRd (fun s _ => sm s.length) fun s b => .str (mk (anW s)) :: stR (anR s) (awB s b))
def c_an : Nat × Con := (n_codesearchref54_args_number, conRd (fun s _ => sm s.length) fun s b => .int .i64 (awN s) :: stR (anR s) (awNB s b))
def c_at : Nat × Con := (n_codesearchref54_args_text, conRd (fun s _ => sm s.length) fun s b => .str (mk (atV s)) :: stR (atS s) (awTB s b))
end Go.Ab
namespace Go.Ab
open Go.Proofs
abbrev Ru := Bool × W × W × W
abbrev Wr := W × W × Bool
structure Ev where
  kind : Int
  repo : W
  name : W
  other : W
  who : Int
  n : Int
  m : Int
  k : Int
  text : W
  gname : W
  users : List Int
  groups : List W
  rules : List Ru
  writes : List Wr
deriving DecidableEq
def ev0 (k : Int) : Ev := ⟨k, [], [], [], 0, 0, 0, 0, [], [], [], [], [], []⟩
def eI1 (u : Int) : List L := [.int .i64 u]
def eS1 (w : W) : List L := [.str (mk w)]
def eR1 (x : Ru) : List L := [.bool x.1, .str (mk x.2.1), .str (mk x.2.2.1), .str (mk x.2.2.2)]
def eW1 (x : Wr) : List L := [.str (mk x.1), .str (mk x.2.1), .bool x.2.2]
def eIs (l : List Int) : List (List L) := l.map eI1
def eSs (l : List W) : List (List L) := l.map eS1
def eRs (l : List Ru) : List (List L) := l.map eR1
def eWs (l : List Wr) : List (List L) := l.map eW1
def encE (e : Ev) : List L := [.int .i64 e.kind, .str (mk e.repo), .str (mk e.name), .str (mk e.other), .int .i64 e.who, .int .i64 e.n, .int .i64 e.m, .int .i64 e.k, .str (mk e.text), .str (mk e.gname), .lst 3 (eIs e.users), .lst 9 (eSs e.groups), .lst 65 (eRs e.rules), .lst 51 (eWs e.writes)]
abbrev K42 : List K := [.int .i64, .str, .str, .str, .int .i64, .int .i64, .int .i64, .int .i64, .str, .str, .sl 3, .sl 9, .sl 65, .sl 51]

abbrev Rs := W × Bool
def sW (x : Rs) : Rs := (rwS x.1 x.2, pwB x.1 x.2)
def vW (x : Rs) : W := rwW x.1 x.2
def sN (x : Rs) : Rs := (rwS x.1 x.2, pnB x.1 x.2)
def vN (x : Rs) : Int := pnV x.1 x.2
def sT (x : Rs) : Rs := (ptS x.1 x.2, ptB x.1 x.2)
def vT (x : Rs) : W := ptV x.1 x.2
def mo (x : Rs) : Bool := !x.2 && !x.1.isEmpty
abbrev wPut : W := [112, 117, 116]
abbrev wDel : W := [100, 101, 108]
abbrev wUser : W := [117, 115, 101, 114]
abbrev wGroup : W := [103, 114, 111, 117, 112]
abbrev wAllow : W := [97, 108, 108, 111, 119]
abbrev wDeny : W := [100, 101, 110, 121]
def lpW : Nat → Rs → List Wr → List Wr × Rs
  | 0, x, a => (a, x)
  | f + 1, x, a => cond (mo x) (cond (vW x == wPut) (lpW f (sT (sW (sW x))) (a ++ [(vW (sW x), vT (sW (sW x)), false)])) (cond (vW x == wDel) (lpW f (sW (sW x)) (a ++ [(vW (sW x), [], true)])) (lpW f ((sW x).1, true) a))) (a, x)
def lpG : Nat → Rs → List Int → List W → (List Int × List W) × Rs
  | 0, x, u, g => ((u, g), x)
  | f + 1, x, u, g => cond (mo x) (cond (vW x == wUser && g.isEmpty) (lpG f (sN (sW x)) (u ++ [vN (sW x)]) g) (cond (vW x == wGroup) (lpG f (sW (sW x)) u (g ++ [vW (sW x)])) (lpG f ((sW x).1, true) u g))) ((u, g), x)
def rp (w : W) : W := cond (w == [45]) [] w
def lpR : Nat → Rs → List Ru → List Ru × Rs
  | 0, x, a => (a, x)
  | f + 1, x, a => cond (mo x) (lpR f ((sW (sW (sW (sW x)))).1, (sW (sW (sW (sW x)))).2 || (!(vW x == wAllow) && !(vW x == wDeny))) (a ++ [(vW x == wAllow, vW (sW x), rp (vW (sW (sW x))), vW (sW (sW (sW x))))])) (a, x)
def fu (x : Rs) : Nat := x.1.length + 1
def lsC (_ : Int) (x : Rs) (e : Ev) : Ev × Rs :=
  let r := lpW (fu (sN (sW (sW x)))) (sN (sW (sW x))) []
  ({ e with repo := vW x, name := vW (sW x), who := vN (sW (sW x)), writes := r.1 }, r.2)
def lsG (_ : Int) (x : Rs) (e : Ev) : Ev × Rs :=
  let r := lpG (fu (sW x)) (sW x) [] []
  ({ e with gname := vW x, users := r.1.1, groups := r.1.2 }, r.2)
def lsR (_ : Int) (x : Rs) (e : Ev) : Ev × Rs :=
  let r := lpR (fu x) x []
  ({ e with rules := r.1 }, r.2)
def ls (k : Int) (x : Rs) : Ev × Rs := cond (k == 1) (lsC k x (ev0 k)) (cond (k == 7) (lsG k x (ev0 k)) (lsR k x (ev0 k)))
def k_lists : Nat × Con := (n_script_lists, fun
  | [.lf (.ptr 0 0), .lf (.ptr 1 0)], [.box [.str, .bool] [.str s, .bool b], .box [.int .i64, .str, .str, .str, .int .i64, .int .i64, .int .i64, .int .i64, .str, .str, .sl 3, .sl 9, .sl 65, .sl 51] [.int .i64 k, .str a1, .str a2, .str a3, .int .i64 a4, .int .i64 a5, .int .i64 a6, .int .i64 a7, .str a8, .str a9, .row 2, .row 3, .row 4, .row 5], .row 3 h2 true, .row 9 h3 true, .row 65 h4 true, .row 51 h5 true] =>
    some (sm s.size && (((bl a1).isEmpty && (bl a2).isEmpty && (bl a3).isEmpty && a4 == 0 && a5 == 0 && a6 == 0 && a7 == 0 && (bl a8).isEmpty && (bl a9).isEmpty) && (h2.isEmpty && h3.isEmpty && h4.isEmpty && h5.isEmpty)),
      .str (mk (ls k (bl s, b)).2.1) :: .bool (ls k (bl s, b)).2.2 :: encE (ls k (bl s, b)).1)
  | _, _ => none)
end Go.Ab
namespace Go.Ab
open Go.Proofs
def sAW (x : Rs) : Rs := (anR x.1, awB x.1 x.2)
def vAW (x : Rs) : W := anW x.1
def sAN (x : Rs) : Rs := (anR x.1, awNB x.1 x.2)
def vAN (x : Rs) : Int := awN x.1
def sAT (x : Rs) : Rs := (atS x.1, awTB x.1 x.2)
def vAT (x : Rs) : W := atV x.1
def lqW : Nat → Rs → List Wr → List Wr × Rs
  | 0, x, a => (a, x)
  | f + 1, x, a => cond (mo x) (cond (vAW x == wPut) (lqW f (sAT (sAW (sAW x))) (a ++ [(vAW (sAW x), vAT (sAW (sAW x)), false)])) (cond (vAW x == wDel) (lqW f (sAW (sAW x)) (a ++ [(vAW (sAW x), [], true)])) (lqW f ((sAW x).1, true) a))) (a, x)
def lqG : Nat → Rs → List Int → List W → (List Int × List W) × Rs
  | 0, x, u, g => ((u, g), x)
  | f + 1, x, u, g => cond (mo x) (cond (vAW x == wUser) (cond g.isEmpty (lqG f (sAN (sAW x)) (u ++ [vAN (sAW x)]) g) (lqG f (sAN ((sAW x).1, true)) (u ++ [vAN ((sAW x).1, true)]) g)) (cond (vAW x == wGroup) (lqG f (sAW (sAW x)) u (g ++ [vAW (sAW x)])) (lqG f ((sAW x).1, true) u g))) ((u, g), x)
def okR (w : W) : Bool := w == wAllow || w == wDeny
def lqR : Nat → Rs → List Ru → List Ru × Rs
  | 0, x, a => (a, x)
  | f + 1, x, a => let y : Rs := ((sAW x).1, (sAW x).2 || !okR (vAW x))
    cond (mo x) (lqR f (sAW (sAW (sAW y))) (a ++ [(vAW x == wAllow, vAW y, rp (vAW (sAW y)), vAW (sAW (sAW y)))])) (a, x)

structure Ops where
  w : Rs → W
  sw : Rs → Rs
  n : Rs → Int
  sn : Rs → Rs
  t : Rs → W
  st : Rs → Rs
  lw : Rs → List Wr × Rs
  lg : Rs → (List Int × List W) × Rs
  lr : Rs → List Ru × Rs
def pOps : Ops := ⟨vW, sW, vN, sN, vT, sT, fun x => lpW (fu x) x [], fun x => lpG (fu x) x [] [], fun x => lpR (fu x) x []⟩
def aOps : Ops := ⟨vAW, sAW, vAN, sAN, vAT, sAT, fun x => lqW (fu x) x [], fun x => lqG (fu x) x [] [], fun x => lqR (fu x) x []⟩
def evRepo (o : Ops) (k : Int) (x : Rs) : Ev × Rs := ({ ev0 k with repo := o.w x }, o.sw x)
def evCom (o : Ops) (k : Int) (x : Rs) : Ev × Rs :=
  let y := o.sn (o.sw (o.sw x))
  ({ ev0 k with repo := o.w x, name := o.w (o.sw x), who := o.n (o.sw (o.sw x)), writes := (o.lw y).1 }, (o.lw y).2)
def evGrp (o : Ops) (k : Int) (x : Rs) : Ev × Rs :=
  ({ ev0 k with gname := o.w x, users := (o.lg (o.sw x)).1.1, groups := (o.lg (o.sw x)).1.2 }, (o.lg (o.sw x)).2)
def evRul (o : Ops) (k : Int) (x : Rs) : Ev × Rs := ({ ev0 k with rules := (o.lr x).1 }, (o.lr x).2)
def evSav (o : Ops) (k : Int) (x : Rs) : Ev × Rs := ({ ev0 k with who := o.n x, text := o.t (o.sn x) }, o.st (o.sn x))
def evSea (o : Ops) (k : Int) (x : Rs) : Ev × Rs :=
  let y := o.st (o.sn x)
  ({ ev0 k with who := o.n x, text := o.t (o.sn x), n := o.n y, m := o.n (o.sn y), k := o.n (o.sn (o.sn y)) }, o.sn (o.sn (o.sn y)))
def evDel (o : Ops) (k : Int) (x : Rs) : Ev × Rs := ({ ev0 k with who := o.n x, n := o.n (o.sn x), k := o.n (o.sn (o.sn x)) }, o.sn (o.sn (o.sn x)))
def evRew (o : Ops) (k : Int) (x : Rs) : Ev × Rs :=
  let y := o.sw (o.sw (o.sn x))
  ({ ev0 k with who := o.n x, repo := o.w (o.sn x), name := o.w (o.sw (o.sn x)), text := o.t y, other := o.t (o.st y) }, o.st (o.st y))
def evBra (o : Ops) (k : Int) (x : Rs) : Ev × Rs := ({ ev0 k with repo := o.w x, name := o.w (o.sw x), other := o.w (o.sw (o.sw x)) }, o.sw (o.sw (o.sw x)))
def evFor (o : Ops) (k : Int) (x : Rs) : Ev × Rs :=
  let y := o.sw (o.sw (o.sw x))
  ({ ev0 k with repo := o.w x, name := o.w (o.sw x), other := o.w (o.sw (o.sw x)), who := o.n y }, o.sn y)
def evDro (o : Ops) (k : Int) (x : Rs) : Ev × Rs := ({ ev0 k with repo := o.w x, name := o.w (o.sw x) }, o.sw (o.sw x))
def ev1 (o : Ops) (k : Int) (x : Rs) : Ev × Rs := ({ ev0 k with n := o.n x }, o.sn x)
def ev2 (o : Ops) (k : Int) (x : Rs) : Ev × Rs := ({ ev0 k with n := o.n x, m := o.n (o.sn x) }, o.sn (o.sn x))
def ev3 (o : Ops) (k : Int) (x : Rs) : Ev × Rs := ({ ev0 k with n := o.n x, m := o.n (o.sn x), k := o.n (o.sn (o.sn x)) }, o.sn (o.sn (o.sn x)))
def evG (o : Ops) (k : Int) (x : Rs) : Ev × Rs :=
  cond (k == 1) (evCom o k x) (cond (k == 2) (evBra o k x) (cond (k == 3) (evDro o k x) (cond (k == 4) (evFor o k x) (cond (k == 5) (evRepo o k x) (cond (k == 6) (ev1 o k x) (cond (k == 7) (evGrp o k x) (cond (k == 8) (evRul o k x)
  (cond (k == 9) (evSea o k x) (cond (k == 10) (evSav o k x) (cond (k == 11) (ev1 o k x) (cond (k == 13) (evDel o k x) (cond (k == 14) (ev1 o k x) (cond (k == 15) (ev2 o k x) (cond (k == 16) (ev3 o k x) (cond (k == 17) (ev2 o k x) (cond (k == 18) (ev2 o k x) (cond (k == 19) (ev3 o k x)
  (cond (k == 20) (evRepo o k x) (cond (k == 21) (evRew o k x) (cond (k == 22) (evRepo o k x) (ev0 k, x)))))))))))))))))))))
def fin3 (r : Ev × Rs) : Ev × Int := cond (r.2.2 || !r.2.1.isEmpty) (ev0 0, 3) (r.1, 0)
def ct (w : W) : Int := cond (mapHas cmdsL (mk w)) (mapGet cmdsL (mk w)) 0
def evL (o : Ops) (s : W) : Ev × Int := cond (ct (upB s) == 0) (ev0 0, 19) (fin3 (evG o (ct (upB s)) (s.drop (upB s).length, false)))
def conEv (o : Ops) : Con
  | [.lf (.str s)], [] => some (sm s.size, encE (evL o (bl s)).1 ++ [.int .i64 (evL o (bl s)).2])
  | _, _ => none
def k_pevent : Nat × Con := (n_script_event, conEv pOps)
def k_read : Nat × Con := (n_codesearchref54_Read, conEv aOps)
def k_writes : Nat × Con := (n_codesearchref54_args_writes, conRd (fun s _ => sm s.length) fun s b => .lst 51 (eWs (lqW (fu (s, b)) (s, b) []).1) :: stR (lqW (fu (s, b)) (s, b) []).2.1 (lqW (fu (s, b)) (s, b) []).2.2)
def rG (x : Rs) : (List Int × List W) × Rs := lqG (fu (sAW x)) (sAW x) [] []
def k_group : Nat × Con := (n_codesearchref54_args_group, conRd (fun s _ => sm s.length) fun s b => .str (mk (vAW (s, b))) :: .lst 3 (eIs (rG (s, b)).1.1) :: .lst 9 (eSs (rG (s, b)).1.2) :: stR (rG (s, b)).2.1 (rG (s, b)).2.2)
def k_rules : Nat × Con := (n_codesearchref54_args_rules, conRd (fun s _ => sm s.length) fun s b => .lst 65 (eRs (lqR (fu (s, b)) (s, b) []).1) :: stR (lqR (fu (s, b)) (s, b) []).2.1 (lqR (fu (s, b)) (s, b) []).2.2)
def k_aevent : Nat × Con := (n_codesearchref54_event, fun
  | [.lf (.int .i64 k), .lf (.ptr 0 0)], [.box [.str, .bool] [.str s, .bool b]] => some (sm s.size && (leI 1 k && leI k 22), encE (evG aOps k (bl s, b)).1 ++ stR (evG aOps k (bl s, b)).2.1 (evG aOps k (bl s, b)).2.2)
  | _, _ => none)
def k_command : Nat × Con := (n_codesearchref54_command, fun
  | [.lf (.str w)], [] => some (sm w.size, [.int .i64 (ct (bl w))])
  | _, _ => none)
end Go.Ab
namespace Go.Ab
open Go.Proofs
noncomputable def pevent_q7 (kind7 : Int) (h0_0 : Int) (h0_1 : ByteArray) (h0_2 : ByteArray) (h0_3 : ByteArray) (h0_4 : Int) (h0_5 : Int) (h0_6 : Int) (h0_7 : Int) (h0_8 : ByteArray) (h0_9 : ByteArray) (h1_0 : ByteArray) (h1_1 : Bool) (h2_0 : Int) (h2_1 : ByteArray) (h2_2 : ByteArray) (h2_3 : ByteArray) (h2_4 : Int) (h2_5 : Int) (h2_6 : Int) (h2_7 : Int) (h2_8 : ByteArray) (h2_9 : ByteArray) (h3 : List (List L)) (h4 : List (List L)) (h5 : List (List L)) (h6 : List (List L)) (h7 : List (List L)) (h8 : List (List L)) (h9 : List (List L)) (h10 : List (List L)) : Req := .point 19 [] (todoAt Tryz.prog 19 7) ⟨[an, an, (.lf (.ptr 0 0)), an, an, an, an, (.lf (.int IntKind.i64 kind7)), an, (.lf (.ptr 1 0)), (.lf (.ptr 2 0)), an, an, an, an, an, an, an, an, an, an, an, an, an, an, an, an, an, an, an, an, an, an, an, an, an, an, an, an, an, an, an, an, an, an, an, an, an, an, an, an, an, an, an, an, an, an, an, an, an, an, an, an, an, an, an, an, an, an, an, an, an, an, an, an, an, an, an, an, an, an, an, an, an, an, an, an, an, an, an, an, an, an, an, an, an, an, an, an, an, an, an, an, an, an, an, an, an, an, an, an, an, an, an, an, an, an, an, an, an, an, an, an, an, an, an, an, an, an, an, an, an, an, an, an, an, an, an, an, an, an, an, an, an, an, an, an, an, an, an, an, an, an, an, an, an, an, an, an, an, an, an, an, an, an, an, an, an], [(.box [(.int IntKind.i64), .str, .str, .str, (.int IntKind.i64), (.int IntKind.i64), (.int IntKind.i64), (.int IntKind.i64), .str, .str, (.sl 3), (.sl 9), (.sl 65), (.sl 51)] [(.int IntKind.i64 h0_0), (.str h0_1), (.str h0_2), (.str h0_3), (.int IntKind.i64 h0_4), (.int IntKind.i64 h0_5), (.int IntKind.i64 h0_6), (.int IntKind.i64 h0_7), (.str h0_8), (.str h0_9), (.row 3), (.row 4), (.row 5), (.row 6)]), (.box [.str, .bool] [(.str h1_0), (.bool h1_1)]), (.box [(.int IntKind.i64), .str, .str, .str, (.int IntKind.i64), (.int IntKind.i64), (.int IntKind.i64), (.int IntKind.i64), .str, .str, (.sl 3), (.sl 9), (.sl 65), (.sl 51)] [(.int IntKind.i64 h2_0), (.str h2_1), (.str h2_2), (.str h2_3), (.int IntKind.i64 h2_4), (.int IntKind.i64 h2_5), (.int IntKind.i64 h2_6), (.int IntKind.i64 h2_7), (.str h2_8), (.str h2_9), (.row 7), (.row 8), (.row 9), (.row 10)]), (.row 3 h3 true), (.row 9 h4 true), (.row 65 h5 true), (.row 51 h6 true), (.row 3 h7 true), (.row 9 h8 true), (.row 65 h9 true), (.row 51 h10 true)]⟩
theorem pevent_e (G : Req → R) (s0 : ByteArray) : runB (cfg [k_commands, k_Cut, c_pw, c_pn, c_pt, k_lists]) G (.enter 19 [(.lf (.str (s0)))] []) =
 (cond (Nat.ble (ByteArray.size s0) 1000000 && true)
 (cond (!mapHas cmdsL (mk (upB (bl s0))))
 (some [(.int IntKind.i64 (0)), (.str (mk [])), (.str (mk [])), (.str (mk [])), (.int IntKind.i64 (0)), (.int IntKind.i64 (0)), (.int IntKind.i64 (0)), (.int IntKind.i64 (0)), (.str (mk [])), (.str (mk [])), (.lst 3 []), (.lst 9 []), (.lst 65 []), (.lst 51 []), (.int IntKind.i64 (19))])
 (cond (leI 0 (↑(ByteArray.size (mk (upB (bl s0)))) : Int) && leI (↑(ByteArray.size (mk (upB (bl s0)))) : Int) (↑(ByteArray.size s0) : Int))
 (G (pevent_q7 (mapGet cmdsL (mk (upB (bl s0)))) 0 (mk []) (mk []) (mk []) 0 0 0 0 (mk []) (mk []) (ByteArray.extract s0 (Int.toNat (↑(ByteArray.size (mk (upB (bl s0)))) : Int)) (ByteArray.size s0)) false (mapGet cmdsL (mk (upB (bl s0)))) (mk []) (mk []) (mk []) 0 0 0 0 (mk []) (mk []) [] [] [] [] [] [] [] []))
 none))
 none) := by kernel_rfl
theorem pevent_p7 (G : Req → R) (kind7 : Int) (h0_0 : Int) (h0_1 : ByteArray) (h0_2 : ByteArray) (h0_3 : ByteArray) (h0_4 : Int) (h0_5 : Int) (h0_6 : Int) (h0_7 : Int) (h0_8 : ByteArray) (h0_9 : ByteArray) (h1_0 : ByteArray) (h1_1 : Bool) (h2_0 : Int) (h2_1 : ByteArray) (h2_2 : ByteArray) (h2_3 : ByteArray) (h2_4 : Int) (h2_5 : Int) (h2_6 : Int) (h2_7 : Int) (h2_8 : ByteArray) (h2_9 : ByteArray) (h3 : List (List L)) (h4 : List (List L)) (h5 : List (List L)) (h6 : List (List L)) (h7 : List (List L)) (h8 : List (List L)) (h9 : List (List L)) (h10 : List (List L)) : runB (cfg [k_commands, k_Cut, c_pw, c_pn, c_pt, k_lists]) G (pevent_q7 kind7 h0_0 h0_1 h0_2 h0_3 h0_4 h0_5 h0_6 h0_7 h0_8 h0_9 h1_0 h1_1 h2_0 h2_1 h2_2 h2_3 h2_4 h2_5 h2_6 h2_7 h2_8 h2_9 h3 h4 h5 h6 h7 h8 h9 h10) =
 (cond (kind7 == 1)
 (cond (sm (ByteArray.size h1_0) && (List.isEmpty (bl h2_1) && List.isEmpty (bl h2_2) && List.isEmpty (bl h2_3) && h2_4 == 0 && h2_5 == 0 && h2_6 == 0 && h2_7 == 0 && List.isEmpty (bl h2_8) && List.isEmpty (bl h2_9) && (List.isEmpty h7 && List.isEmpty h8 && List.isEmpty h9 && List.isEmpty h10)))
 (cond (Prod.snd (Prod.snd (ls h2_0 (bl h1_0, h1_1))))
 (some [(.int IntKind.i64 (0)), (.str (mk [])), (.str (mk [])), (.str (mk [])), (.int IntKind.i64 (0)), (.int IntKind.i64 (0)), (.int IntKind.i64 (0)), (.int IntKind.i64 (0)), (.str (mk [])), (.str (mk [])), (.lst 3 []), (.lst 9 []), (.lst 65 []), (.lst 51 []), (.int IntKind.i64 (3))])
 (cond (!bl (mk (Prod.fst (Prod.snd (ls h2_0 (bl h1_0, h1_1))))) == bl (mk []))
 (some [(.int IntKind.i64 (0)), (.str (mk [])), (.str (mk [])), (.str (mk [])), (.int IntKind.i64 (0)), (.int IntKind.i64 (0)), (.int IntKind.i64 (0)), (.int IntKind.i64 (0)), (.str (mk [])), (.str (mk [])), (.lst 3 []), (.lst 9 []), (.lst 65 []), (.lst 51 []), (.int IntKind.i64 (3))])
 (some [(.int IntKind.i64 (Ev.kind (Prod.fst (ls h2_0 (bl h1_0, h1_1))))), (.str (mk (Ev.repo (Prod.fst (ls h2_0 (bl h1_0, h1_1)))))), (.str (mk (Ev.name (Prod.fst (ls h2_0 (bl h1_0, h1_1)))))), (.str (mk (Ev.other (Prod.fst (ls h2_0 (bl h1_0, h1_1)))))), (.int IntKind.i64 (Ev.who (Prod.fst (ls h2_0 (bl h1_0, h1_1))))), (.int IntKind.i64 (Ev.n (Prod.fst (ls h2_0 (bl h1_0, h1_1))))), (.int IntKind.i64 (Ev.m (Prod.fst (ls h2_0 (bl h1_0, h1_1))))), (.int IntKind.i64 (Ev.k (Prod.fst (ls h2_0 (bl h1_0, h1_1))))), (.str (mk (Ev.text (Prod.fst (ls h2_0 (bl h1_0, h1_1)))))), (.str (mk (Ev.gname (Prod.fst (ls h2_0 (bl h1_0, h1_1)))))), (.lst 3 (eIs (Ev.users (Prod.fst (ls h2_0 (bl h1_0, h1_1)))))), (.lst 9 (eSs (Ev.groups (Prod.fst (ls h2_0 (bl h1_0, h1_1)))))), (.lst 65 (eRs (Ev.rules (Prod.fst (ls h2_0 (bl h1_0, h1_1)))))), (.lst 51 (eWs (Ev.writes (Prod.fst (ls h2_0 (bl h1_0, h1_1)))))), (.int IntKind.i64 (0))])))
 none)
 (cond (kind7 == 7)
 (cond (sm (ByteArray.size h1_0) && (List.isEmpty (bl h2_1) && List.isEmpty (bl h2_2) && List.isEmpty (bl h2_3) && h2_4 == 0 && h2_5 == 0 && h2_6 == 0 && h2_7 == 0 && List.isEmpty (bl h2_8) && List.isEmpty (bl h2_9) && (List.isEmpty h7 && List.isEmpty h8 && List.isEmpty h9 && List.isEmpty h10)))
 (cond (Prod.snd (Prod.snd (ls h2_0 (bl h1_0, h1_1))))
 (some [(.int IntKind.i64 (0)), (.str (mk [])), (.str (mk [])), (.str (mk [])), (.int IntKind.i64 (0)), (.int IntKind.i64 (0)), (.int IntKind.i64 (0)), (.int IntKind.i64 (0)), (.str (mk [])), (.str (mk [])), (.lst 3 []), (.lst 9 []), (.lst 65 []), (.lst 51 []), (.int IntKind.i64 (3))])
 (cond (!bl (mk (Prod.fst (Prod.snd (ls h2_0 (bl h1_0, h1_1))))) == bl (mk []))
 (some [(.int IntKind.i64 (0)), (.str (mk [])), (.str (mk [])), (.str (mk [])), (.int IntKind.i64 (0)), (.int IntKind.i64 (0)), (.int IntKind.i64 (0)), (.int IntKind.i64 (0)), (.str (mk [])), (.str (mk [])), (.lst 3 []), (.lst 9 []), (.lst 65 []), (.lst 51 []), (.int IntKind.i64 (3))])
 (some [(.int IntKind.i64 (Ev.kind (Prod.fst (ls h2_0 (bl h1_0, h1_1))))), (.str (mk (Ev.repo (Prod.fst (ls h2_0 (bl h1_0, h1_1)))))), (.str (mk (Ev.name (Prod.fst (ls h2_0 (bl h1_0, h1_1)))))), (.str (mk (Ev.other (Prod.fst (ls h2_0 (bl h1_0, h1_1)))))), (.int IntKind.i64 (Ev.who (Prod.fst (ls h2_0 (bl h1_0, h1_1))))), (.int IntKind.i64 (Ev.n (Prod.fst (ls h2_0 (bl h1_0, h1_1))))), (.int IntKind.i64 (Ev.m (Prod.fst (ls h2_0 (bl h1_0, h1_1))))), (.int IntKind.i64 (Ev.k (Prod.fst (ls h2_0 (bl h1_0, h1_1))))), (.str (mk (Ev.text (Prod.fst (ls h2_0 (bl h1_0, h1_1)))))), (.str (mk (Ev.gname (Prod.fst (ls h2_0 (bl h1_0, h1_1)))))), (.lst 3 (eIs (Ev.users (Prod.fst (ls h2_0 (bl h1_0, h1_1)))))), (.lst 9 (eSs (Ev.groups (Prod.fst (ls h2_0 (bl h1_0, h1_1)))))), (.lst 65 (eRs (Ev.rules (Prod.fst (ls h2_0 (bl h1_0, h1_1)))))), (.lst 51 (eWs (Ev.writes (Prod.fst (ls h2_0 (bl h1_0, h1_1)))))), (.int IntKind.i64 (0))])))
 none)
 (cond (kind7 == 8)
 (cond (sm (ByteArray.size h1_0) && (List.isEmpty (bl h2_1) && List.isEmpty (bl h2_2) && List.isEmpty (bl h2_3) && h2_4 == 0 && h2_5 == 0 && h2_6 == 0 && h2_7 == 0 && List.isEmpty (bl h2_8) && List.isEmpty (bl h2_9) && (List.isEmpty h7 && List.isEmpty h8 && List.isEmpty h9 && List.isEmpty h10)))
 (cond (Prod.snd (Prod.snd (ls h2_0 (bl h1_0, h1_1))))
 (some [(.int IntKind.i64 (0)), (.str (mk [])), (.str (mk [])), (.str (mk [])), (.int IntKind.i64 (0)), (.int IntKind.i64 (0)), (.int IntKind.i64 (0)), (.int IntKind.i64 (0)), (.str (mk [])), (.str (mk [])), (.lst 3 []), (.lst 9 []), (.lst 65 []), (.lst 51 []), (.int IntKind.i64 (3))])
 (cond (!bl (mk (Prod.fst (Prod.snd (ls h2_0 (bl h1_0, h1_1))))) == bl (mk []))
 (some [(.int IntKind.i64 (0)), (.str (mk [])), (.str (mk [])), (.str (mk [])), (.int IntKind.i64 (0)), (.int IntKind.i64 (0)), (.int IntKind.i64 (0)), (.int IntKind.i64 (0)), (.str (mk [])), (.str (mk [])), (.lst 3 []), (.lst 9 []), (.lst 65 []), (.lst 51 []), (.int IntKind.i64 (3))])
 (some [(.int IntKind.i64 (Ev.kind (Prod.fst (ls h2_0 (bl h1_0, h1_1))))), (.str (mk (Ev.repo (Prod.fst (ls h2_0 (bl h1_0, h1_1)))))), (.str (mk (Ev.name (Prod.fst (ls h2_0 (bl h1_0, h1_1)))))), (.str (mk (Ev.other (Prod.fst (ls h2_0 (bl h1_0, h1_1)))))), (.int IntKind.i64 (Ev.who (Prod.fst (ls h2_0 (bl h1_0, h1_1))))), (.int IntKind.i64 (Ev.n (Prod.fst (ls h2_0 (bl h1_0, h1_1))))), (.int IntKind.i64 (Ev.m (Prod.fst (ls h2_0 (bl h1_0, h1_1))))), (.int IntKind.i64 (Ev.k (Prod.fst (ls h2_0 (bl h1_0, h1_1))))), (.str (mk (Ev.text (Prod.fst (ls h2_0 (bl h1_0, h1_1)))))), (.str (mk (Ev.gname (Prod.fst (ls h2_0 (bl h1_0, h1_1)))))), (.lst 3 (eIs (Ev.users (Prod.fst (ls h2_0 (bl h1_0, h1_1)))))), (.lst 9 (eSs (Ev.groups (Prod.fst (ls h2_0 (bl h1_0, h1_1)))))), (.lst 65 (eRs (Ev.rules (Prod.fst (ls h2_0 (bl h1_0, h1_1)))))), (.lst 51 (eWs (Ev.writes (Prod.fst (ls h2_0 (bl h1_0, h1_1)))))), (.int IntKind.i64 (0))])))
 none)
 (cond (kind7 == 9)
 (cond (sm (List.length (bl h1_0)))
 (cond (sm (List.length (bl (mk (rwS (bl h1_0) h1_1)))))
 (cond (sm (List.length (bl (mk (ptS (bl (mk (rwS (bl h1_0) h1_1))) (pnB (bl h1_0) h1_1))))))
 (cond (sm (List.length (bl (mk (rwS (bl (mk (ptS (bl (mk (rwS (bl h1_0) h1_1))) (pnB (bl h1_0) h1_1)))) (ptB (bl (mk (rwS (bl h1_0) h1_1))) (pnB (bl h1_0) h1_1)))))))
 (cond (sm (List.length (bl (mk (rwS (bl (mk (rwS (bl (mk (ptS (bl (mk (rwS (bl h1_0) h1_1))) (pnB (bl h1_0) h1_1)))) (ptB (bl (mk (rwS (bl h1_0) h1_1))) (pnB (bl h1_0) h1_1))))) (pnB (bl (mk (ptS (bl (mk (rwS (bl h1_0) h1_1))) (pnB (bl h1_0) h1_1)))) (ptB (bl (mk (rwS (bl h1_0) h1_1))) (pnB (bl h1_0) h1_1))))))))
 (cond (pnB (bl (mk (rwS (bl (mk (rwS (bl (mk (ptS (bl (mk (rwS (bl h1_0) h1_1))) (pnB (bl h1_0) h1_1)))) (ptB (bl (mk (rwS (bl h1_0) h1_1))) (pnB (bl h1_0) h1_1))))) (pnB (bl (mk (ptS (bl (mk (rwS (bl h1_0) h1_1))) (pnB (bl h1_0) h1_1)))) (ptB (bl (mk (rwS (bl h1_0) h1_1))) (pnB (bl h1_0) h1_1)))))) (pnB (bl (mk (rwS (bl (mk (ptS (bl (mk (rwS (bl h1_0) h1_1))) (pnB (bl h1_0) h1_1)))) (ptB (bl (mk (rwS (bl h1_0) h1_1))) (pnB (bl h1_0) h1_1))))) (pnB (bl (mk (ptS (bl (mk (rwS (bl h1_0) h1_1))) (pnB (bl h1_0) h1_1)))) (ptB (bl (mk (rwS (bl h1_0) h1_1))) (pnB (bl h1_0) h1_1)))))
 (some [(.int IntKind.i64 (0)), (.str (mk [])), (.str (mk [])), (.str (mk [])), (.int IntKind.i64 (0)), (.int IntKind.i64 (0)), (.int IntKind.i64 (0)), (.int IntKind.i64 (0)), (.str (mk [])), (.str (mk [])), (.lst 3 []), (.lst 9 []), (.lst 65 []), (.lst 51 []), (.int IntKind.i64 (3))])
 (cond (!bl (mk (rwS (bl (mk (rwS (bl (mk (rwS (bl (mk (ptS (bl (mk (rwS (bl h1_0) h1_1))) (pnB (bl h1_0) h1_1)))) (ptB (bl (mk (rwS (bl h1_0) h1_1))) (pnB (bl h1_0) h1_1))))) (pnB (bl (mk (ptS (bl (mk (rwS (bl h1_0) h1_1))) (pnB (bl h1_0) h1_1)))) (ptB (bl (mk (rwS (bl h1_0) h1_1))) (pnB (bl h1_0) h1_1)))))) (pnB (bl (mk (rwS (bl (mk (ptS (bl (mk (rwS (bl h1_0) h1_1))) (pnB (bl h1_0) h1_1)))) (ptB (bl (mk (rwS (bl h1_0) h1_1))) (pnB (bl h1_0) h1_1))))) (pnB (bl (mk (ptS (bl (mk (rwS (bl h1_0) h1_1))) (pnB (bl h1_0) h1_1)))) (ptB (bl (mk (rwS (bl h1_0) h1_1))) (pnB (bl h1_0) h1_1)))))) == bl (mk []))
 (some [(.int IntKind.i64 (0)), (.str (mk [])), (.str (mk [])), (.str (mk [])), (.int IntKind.i64 (0)), (.int IntKind.i64 (0)), (.int IntKind.i64 (0)), (.int IntKind.i64 (0)), (.str (mk [])), (.str (mk [])), (.lst 3 []), (.lst 9 []), (.lst 65 []), (.lst 51 []), (.int IntKind.i64 (3))])
 (some [(.int IntKind.i64 (h2_0)), (.str (h2_1)), (.str (h2_2)), (.str (h2_3)), (.int IntKind.i64 (pnV (bl h1_0) h1_1)), (.int IntKind.i64 (pnV (bl (mk (ptS (bl (mk (rwS (bl h1_0) h1_1))) (pnB (bl h1_0) h1_1)))) (ptB (bl (mk (rwS (bl h1_0) h1_1))) (pnB (bl h1_0) h1_1)))), (.int IntKind.i64 (pnV (bl (mk (rwS (bl (mk (ptS (bl (mk (rwS (bl h1_0) h1_1))) (pnB (bl h1_0) h1_1)))) (ptB (bl (mk (rwS (bl h1_0) h1_1))) (pnB (bl h1_0) h1_1))))) (pnB (bl (mk (ptS (bl (mk (rwS (bl h1_0) h1_1))) (pnB (bl h1_0) h1_1)))) (ptB (bl (mk (rwS (bl h1_0) h1_1))) (pnB (bl h1_0) h1_1))))), (.int IntKind.i64 (pnV (bl (mk (rwS (bl (mk (rwS (bl (mk (ptS (bl (mk (rwS (bl h1_0) h1_1))) (pnB (bl h1_0) h1_1)))) (ptB (bl (mk (rwS (bl h1_0) h1_1))) (pnB (bl h1_0) h1_1))))) (pnB (bl (mk (ptS (bl (mk (rwS (bl h1_0) h1_1))) (pnB (bl h1_0) h1_1)))) (ptB (bl (mk (rwS (bl h1_0) h1_1))) (pnB (bl h1_0) h1_1)))))) (pnB (bl (mk (rwS (bl (mk (ptS (bl (mk (rwS (bl h1_0) h1_1))) (pnB (bl h1_0) h1_1)))) (ptB (bl (mk (rwS (bl h1_0) h1_1))) (pnB (bl h1_0) h1_1))))) (pnB (bl (mk (ptS (bl (mk (rwS (bl h1_0) h1_1))) (pnB (bl h1_0) h1_1)))) (ptB (bl (mk (rwS (bl h1_0) h1_1))) (pnB (bl h1_0) h1_1)))))), (.str (mk (ptV (bl (mk (rwS (bl h1_0) h1_1))) (pnB (bl h1_0) h1_1)))), (.str (h2_9)), (.lst 3 h7), (.lst 9 h8), (.lst 65 h9), (.lst 51 h10), (.int IntKind.i64 (0))])))
 none)
 none)
 none)
 none)
 none)
 (cond (kind7 == 10)
 (cond (sm (List.length (bl h1_0)))
 (cond (sm (List.length (bl (mk (rwS (bl h1_0) h1_1)))))
 (cond (ptB (bl (mk (rwS (bl h1_0) h1_1))) (pnB (bl h1_0) h1_1))
 (some [(.int IntKind.i64 (0)), (.str (mk [])), (.str (mk [])), (.str (mk [])), (.int IntKind.i64 (0)), (.int IntKind.i64 (0)), (.int IntKind.i64 (0)), (.int IntKind.i64 (0)), (.str (mk [])), (.str (mk [])), (.lst 3 []), (.lst 9 []), (.lst 65 []), (.lst 51 []), (.int IntKind.i64 (3))])
 (cond (!bl (mk (ptS (bl (mk (rwS (bl h1_0) h1_1))) (pnB (bl h1_0) h1_1))) == bl (mk []))
 (some [(.int IntKind.i64 (0)), (.str (mk [])), (.str (mk [])), (.str (mk [])), (.int IntKind.i64 (0)), (.int IntKind.i64 (0)), (.int IntKind.i64 (0)), (.int IntKind.i64 (0)), (.str (mk [])), (.str (mk [])), (.lst 3 []), (.lst 9 []), (.lst 65 []), (.lst 51 []), (.int IntKind.i64 (3))])
 (some [(.int IntKind.i64 (h2_0)), (.str (h2_1)), (.str (h2_2)), (.str (h2_3)), (.int IntKind.i64 (pnV (bl h1_0) h1_1)), (.int IntKind.i64 (h2_5)), (.int IntKind.i64 (h2_6)), (.int IntKind.i64 (h2_7)), (.str (mk (ptV (bl (mk (rwS (bl h1_0) h1_1))) (pnB (bl h1_0) h1_1)))), (.str (h2_9)), (.lst 3 h7), (.lst 9 h8), (.lst 65 h9), (.lst 51 h10), (.int IntKind.i64 (0))])))
 none)
 none)
 (cond (kind7 == 13)
 (cond (sm (List.length (bl h1_0)))
 (cond (sm (List.length (bl (mk (rwS (bl h1_0) h1_1)))))
 (cond (sm (List.length (bl (mk (rwS (bl (mk (rwS (bl h1_0) h1_1))) (pnB (bl h1_0) h1_1))))))
 (cond (pnB (bl (mk (rwS (bl (mk (rwS (bl h1_0) h1_1))) (pnB (bl h1_0) h1_1)))) (pnB (bl (mk (rwS (bl h1_0) h1_1))) (pnB (bl h1_0) h1_1)))
 (some [(.int IntKind.i64 (0)), (.str (mk [])), (.str (mk [])), (.str (mk [])), (.int IntKind.i64 (0)), (.int IntKind.i64 (0)), (.int IntKind.i64 (0)), (.int IntKind.i64 (0)), (.str (mk [])), (.str (mk [])), (.lst 3 []), (.lst 9 []), (.lst 65 []), (.lst 51 []), (.int IntKind.i64 (3))])
 (cond (!bl (mk (rwS (bl (mk (rwS (bl (mk (rwS (bl h1_0) h1_1))) (pnB (bl h1_0) h1_1)))) (pnB (bl (mk (rwS (bl h1_0) h1_1))) (pnB (bl h1_0) h1_1)))) == bl (mk []))
 (some [(.int IntKind.i64 (0)), (.str (mk [])), (.str (mk [])), (.str (mk [])), (.int IntKind.i64 (0)), (.int IntKind.i64 (0)), (.int IntKind.i64 (0)), (.int IntKind.i64 (0)), (.str (mk [])), (.str (mk [])), (.lst 3 []), (.lst 9 []), (.lst 65 []), (.lst 51 []), (.int IntKind.i64 (3))])
 (some [(.int IntKind.i64 (h2_0)), (.str (h2_1)), (.str (h2_2)), (.str (h2_3)), (.int IntKind.i64 (pnV (bl h1_0) h1_1)), (.int IntKind.i64 (pnV (bl (mk (rwS (bl h1_0) h1_1))) (pnB (bl h1_0) h1_1))), (.int IntKind.i64 (h2_6)), (.int IntKind.i64 (pnV (bl (mk (rwS (bl (mk (rwS (bl h1_0) h1_1))) (pnB (bl h1_0) h1_1)))) (pnB (bl (mk (rwS (bl h1_0) h1_1))) (pnB (bl h1_0) h1_1)))), (.str (h2_8)), (.str (h2_9)), (.lst 3 h7), (.lst 9 h8), (.lst 65 h9), (.lst 51 h10), (.int IntKind.i64 (0))])))
 none)
 none)
 none)
 (cond (kind7 == 21)
 (cond (sm (List.length (bl h1_0)))
 (cond (sm (List.length (bl (mk (rwS (bl h1_0) h1_1)))))
 (cond (sm (List.length (bl (mk (rwS (bl (mk (rwS (bl h1_0) h1_1))) (pnB (bl h1_0) h1_1))))))
 (cond (sm (List.length (bl (mk (rwS (bl (mk (rwS (bl (mk (rwS (bl h1_0) h1_1))) (pnB (bl h1_0) h1_1)))) (pwB (bl (mk (rwS (bl h1_0) h1_1))) (pnB (bl h1_0) h1_1)))))))
 (cond (sm (List.length (bl (mk (ptS (bl (mk (rwS (bl (mk (rwS (bl (mk (rwS (bl h1_0) h1_1))) (pnB (bl h1_0) h1_1)))) (pwB (bl (mk (rwS (bl h1_0) h1_1))) (pnB (bl h1_0) h1_1))))) (pwB (bl (mk (rwS (bl (mk (rwS (bl h1_0) h1_1))) (pnB (bl h1_0) h1_1)))) (pwB (bl (mk (rwS (bl h1_0) h1_1))) (pnB (bl h1_0) h1_1))))))))
 (cond (ptB (bl (mk (ptS (bl (mk (rwS (bl (mk (rwS (bl (mk (rwS (bl h1_0) h1_1))) (pnB (bl h1_0) h1_1)))) (pwB (bl (mk (rwS (bl h1_0) h1_1))) (pnB (bl h1_0) h1_1))))) (pwB (bl (mk (rwS (bl (mk (rwS (bl h1_0) h1_1))) (pnB (bl h1_0) h1_1)))) (pwB (bl (mk (rwS (bl h1_0) h1_1))) (pnB (bl h1_0) h1_1)))))) (ptB (bl (mk (rwS (bl (mk (rwS (bl (mk (rwS (bl h1_0) h1_1))) (pnB (bl h1_0) h1_1)))) (pwB (bl (mk (rwS (bl h1_0) h1_1))) (pnB (bl h1_0) h1_1))))) (pwB (bl (mk (rwS (bl (mk (rwS (bl h1_0) h1_1))) (pnB (bl h1_0) h1_1)))) (pwB (bl (mk (rwS (bl h1_0) h1_1))) (pnB (bl h1_0) h1_1)))))
 (some [(.int IntKind.i64 (0)), (.str (mk [])), (.str (mk [])), (.str (mk [])), (.int IntKind.i64 (0)), (.int IntKind.i64 (0)), (.int IntKind.i64 (0)), (.int IntKind.i64 (0)), (.str (mk [])), (.str (mk [])), (.lst 3 []), (.lst 9 []), (.lst 65 []), (.lst 51 []), (.int IntKind.i64 (3))])
 (cond (!bl (mk (ptS (bl (mk (ptS (bl (mk (rwS (bl (mk (rwS (bl (mk (rwS (bl h1_0) h1_1))) (pnB (bl h1_0) h1_1)))) (pwB (bl (mk (rwS (bl h1_0) h1_1))) (pnB (bl h1_0) h1_1))))) (pwB (bl (mk (rwS (bl (mk (rwS (bl h1_0) h1_1))) (pnB (bl h1_0) h1_1)))) (pwB (bl (mk (rwS (bl h1_0) h1_1))) (pnB (bl h1_0) h1_1)))))) (ptB (bl (mk (rwS (bl (mk (rwS (bl (mk (rwS (bl h1_0) h1_1))) (pnB (bl h1_0) h1_1)))) (pwB (bl (mk (rwS (bl h1_0) h1_1))) (pnB (bl h1_0) h1_1))))) (pwB (bl (mk (rwS (bl (mk (rwS (bl h1_0) h1_1))) (pnB (bl h1_0) h1_1)))) (pwB (bl (mk (rwS (bl h1_0) h1_1))) (pnB (bl h1_0) h1_1)))))) == bl (mk []))
 (some [(.int IntKind.i64 (0)), (.str (mk [])), (.str (mk [])), (.str (mk [])), (.int IntKind.i64 (0)), (.int IntKind.i64 (0)), (.int IntKind.i64 (0)), (.int IntKind.i64 (0)), (.str (mk [])), (.str (mk [])), (.lst 3 []), (.lst 9 []), (.lst 65 []), (.lst 51 []), (.int IntKind.i64 (3))])
 (some [(.int IntKind.i64 (h2_0)), (.str (mk (rwW (bl (mk (rwS (bl h1_0) h1_1))) (pnB (bl h1_0) h1_1)))), (.str (mk (rwW (bl (mk (rwS (bl (mk (rwS (bl h1_0) h1_1))) (pnB (bl h1_0) h1_1)))) (pwB (bl (mk (rwS (bl h1_0) h1_1))) (pnB (bl h1_0) h1_1))))), (.str (mk (ptV (bl (mk (ptS (bl (mk (rwS (bl (mk (rwS (bl (mk (rwS (bl h1_0) h1_1))) (pnB (bl h1_0) h1_1)))) (pwB (bl (mk (rwS (bl h1_0) h1_1))) (pnB (bl h1_0) h1_1))))) (pwB (bl (mk (rwS (bl (mk (rwS (bl h1_0) h1_1))) (pnB (bl h1_0) h1_1)))) (pwB (bl (mk (rwS (bl h1_0) h1_1))) (pnB (bl h1_0) h1_1)))))) (ptB (bl (mk (rwS (bl (mk (rwS (bl (mk (rwS (bl h1_0) h1_1))) (pnB (bl h1_0) h1_1)))) (pwB (bl (mk (rwS (bl h1_0) h1_1))) (pnB (bl h1_0) h1_1))))) (pwB (bl (mk (rwS (bl (mk (rwS (bl h1_0) h1_1))) (pnB (bl h1_0) h1_1)))) (pwB (bl (mk (rwS (bl h1_0) h1_1))) (pnB (bl h1_0) h1_1))))))), (.int IntKind.i64 (pnV (bl h1_0) h1_1)), (.int IntKind.i64 (h2_5)), (.int IntKind.i64 (h2_6)), (.int IntKind.i64 (h2_7)), (.str (mk (ptV (bl (mk (rwS (bl (mk (rwS (bl (mk (rwS (bl h1_0) h1_1))) (pnB (bl h1_0) h1_1)))) (pwB (bl (mk (rwS (bl h1_0) h1_1))) (pnB (bl h1_0) h1_1))))) (pwB (bl (mk (rwS (bl (mk (rwS (bl h1_0) h1_1))) (pnB (bl h1_0) h1_1)))) (pwB (bl (mk (rwS (bl h1_0) h1_1))) (pnB (bl h1_0) h1_1)))))), (.str (h2_9)), (.lst 3 h7), (.lst 9 h8), (.lst 65 h9), (.lst 51 h10), (.int IntKind.i64 (0))])))
 none)
 none)
 none)
 none)
 none)
 (cond (kind7 == 22)
 (cond (sm (List.length (bl h1_0)))
 (cond (pwB (bl h1_0) h1_1)
 (some [(.int IntKind.i64 (0)), (.str (mk [])), (.str (mk [])), (.str (mk [])), (.int IntKind.i64 (0)), (.int IntKind.i64 (0)), (.int IntKind.i64 (0)), (.int IntKind.i64 (0)), (.str (mk [])), (.str (mk [])), (.lst 3 []), (.lst 9 []), (.lst 65 []), (.lst 51 []), (.int IntKind.i64 (3))])
 (cond (!bl (mk (rwS (bl h1_0) h1_1)) == bl (mk []))
 (some [(.int IntKind.i64 (0)), (.str (mk [])), (.str (mk [])), (.str (mk [])), (.int IntKind.i64 (0)), (.int IntKind.i64 (0)), (.int IntKind.i64 (0)), (.int IntKind.i64 (0)), (.str (mk [])), (.str (mk [])), (.lst 3 []), (.lst 9 []), (.lst 65 []), (.lst 51 []), (.int IntKind.i64 (3))])
 (some [(.int IntKind.i64 (h2_0)), (.str (mk (rwW (bl h1_0) h1_1))), (.str (h2_2)), (.str (h2_3)), (.int IntKind.i64 (h2_4)), (.int IntKind.i64 (h2_5)), (.int IntKind.i64 (h2_6)), (.int IntKind.i64 (h2_7)), (.str (h2_8)), (.str (h2_9)), (.lst 3 h7), (.lst 9 h8), (.lst 65 h9), (.lst 51 h10), (.int IntKind.i64 (0))])))
 none)
 (cond (kind7 == 5)
 (cond (sm (List.length (bl h1_0)))
 (cond (pwB (bl h1_0) h1_1)
 (some [(.int IntKind.i64 (0)), (.str (mk [])), (.str (mk [])), (.str (mk [])), (.int IntKind.i64 (0)), (.int IntKind.i64 (0)), (.int IntKind.i64 (0)), (.int IntKind.i64 (0)), (.str (mk [])), (.str (mk [])), (.lst 3 []), (.lst 9 []), (.lst 65 []), (.lst 51 []), (.int IntKind.i64 (3))])
 (cond (!bl (mk (rwS (bl h1_0) h1_1)) == bl (mk []))
 (some [(.int IntKind.i64 (0)), (.str (mk [])), (.str (mk [])), (.str (mk [])), (.int IntKind.i64 (0)), (.int IntKind.i64 (0)), (.int IntKind.i64 (0)), (.int IntKind.i64 (0)), (.str (mk [])), (.str (mk [])), (.lst 3 []), (.lst 9 []), (.lst 65 []), (.lst 51 []), (.int IntKind.i64 (3))])
 (some [(.int IntKind.i64 (h2_0)), (.str (mk (rwW (bl h1_0) h1_1))), (.str (h2_2)), (.str (h2_3)), (.int IntKind.i64 (h2_4)), (.int IntKind.i64 (h2_5)), (.int IntKind.i64 (h2_6)), (.int IntKind.i64 (h2_7)), (.str (h2_8)), (.str (h2_9)), (.lst 3 h7), (.lst 9 h8), (.lst 65 h9), (.lst 51 h10), (.int IntKind.i64 (0))])))
 none)
 (cond (kind7 == 20)
 (cond (sm (List.length (bl h1_0)))
 (cond (pwB (bl h1_0) h1_1)
 (some [(.int IntKind.i64 (0)), (.str (mk [])), (.str (mk [])), (.str (mk [])), (.int IntKind.i64 (0)), (.int IntKind.i64 (0)), (.int IntKind.i64 (0)), (.int IntKind.i64 (0)), (.str (mk [])), (.str (mk [])), (.lst 3 []), (.lst 9 []), (.lst 65 []), (.lst 51 []), (.int IntKind.i64 (3))])
 (cond (!bl (mk (rwS (bl h1_0) h1_1)) == bl (mk []))
 (some [(.int IntKind.i64 (0)), (.str (mk [])), (.str (mk [])), (.str (mk [])), (.int IntKind.i64 (0)), (.int IntKind.i64 (0)), (.int IntKind.i64 (0)), (.int IntKind.i64 (0)), (.str (mk [])), (.str (mk [])), (.lst 3 []), (.lst 9 []), (.lst 65 []), (.lst 51 []), (.int IntKind.i64 (3))])
 (some [(.int IntKind.i64 (h2_0)), (.str (mk (rwW (bl h1_0) h1_1))), (.str (h2_2)), (.str (h2_3)), (.int IntKind.i64 (h2_4)), (.int IntKind.i64 (h2_5)), (.int IntKind.i64 (h2_6)), (.int IntKind.i64 (h2_7)), (.str (h2_8)), (.str (h2_9)), (.lst 3 h7), (.lst 9 h8), (.lst 65 h9), (.lst 51 h10), (.int IntKind.i64 (0))])))
 none)
 (cond (kind7 == 2)
 (cond (sm (List.length (bl h1_0)))
 (cond (sm (List.length (bl (mk (rwS (bl h1_0) h1_1)))))
 (cond (sm (List.length (bl (mk (rwS (bl (mk (rwS (bl h1_0) h1_1))) (pwB (bl h1_0) h1_1))))))
 (cond (kind7 == 4)
 (cond (sm (List.length (bl (mk (rwS (bl (mk (rwS (bl (mk (rwS (bl h1_0) h1_1))) (pwB (bl h1_0) h1_1)))) (pwB (bl (mk (rwS (bl h1_0) h1_1))) (pwB (bl h1_0) h1_1)))))))
 (cond (pnB (bl (mk (rwS (bl (mk (rwS (bl (mk (rwS (bl h1_0) h1_1))) (pwB (bl h1_0) h1_1)))) (pwB (bl (mk (rwS (bl h1_0) h1_1))) (pwB (bl h1_0) h1_1))))) (pwB (bl (mk (rwS (bl (mk (rwS (bl h1_0) h1_1))) (pwB (bl h1_0) h1_1)))) (pwB (bl (mk (rwS (bl h1_0) h1_1))) (pwB (bl h1_0) h1_1))))
 (some [(.int IntKind.i64 (0)), (.str (mk [])), (.str (mk [])), (.str (mk [])), (.int IntKind.i64 (0)), (.int IntKind.i64 (0)), (.int IntKind.i64 (0)), (.int IntKind.i64 (0)), (.str (mk [])), (.str (mk [])), (.lst 3 []), (.lst 9 []), (.lst 65 []), (.lst 51 []), (.int IntKind.i64 (3))])
 (cond (!bl (mk (rwS (bl (mk (rwS (bl (mk (rwS (bl (mk (rwS (bl h1_0) h1_1))) (pwB (bl h1_0) h1_1)))) (pwB (bl (mk (rwS (bl h1_0) h1_1))) (pwB (bl h1_0) h1_1))))) (pwB (bl (mk (rwS (bl (mk (rwS (bl h1_0) h1_1))) (pwB (bl h1_0) h1_1)))) (pwB (bl (mk (rwS (bl h1_0) h1_1))) (pwB (bl h1_0) h1_1))))) == bl (mk []))
 (some [(.int IntKind.i64 (0)), (.str (mk [])), (.str (mk [])), (.str (mk [])), (.int IntKind.i64 (0)), (.int IntKind.i64 (0)), (.int IntKind.i64 (0)), (.int IntKind.i64 (0)), (.str (mk [])), (.str (mk [])), (.lst 3 []), (.lst 9 []), (.lst 65 []), (.lst 51 []), (.int IntKind.i64 (3))])
 (some [(.int IntKind.i64 (h2_0)), (.str (mk (rwW (bl h1_0) h1_1))), (.str (mk (rwW (bl (mk (rwS (bl h1_0) h1_1))) (pwB (bl h1_0) h1_1)))), (.str (mk (rwW (bl (mk (rwS (bl (mk (rwS (bl h1_0) h1_1))) (pwB (bl h1_0) h1_1)))) (pwB (bl (mk (rwS (bl h1_0) h1_1))) (pwB (bl h1_0) h1_1))))), (.int IntKind.i64 (pnV (bl (mk (rwS (bl (mk (rwS (bl (mk (rwS (bl h1_0) h1_1))) (pwB (bl h1_0) h1_1)))) (pwB (bl (mk (rwS (bl h1_0) h1_1))) (pwB (bl h1_0) h1_1))))) (pwB (bl (mk (rwS (bl (mk (rwS (bl h1_0) h1_1))) (pwB (bl h1_0) h1_1)))) (pwB (bl (mk (rwS (bl h1_0) h1_1))) (pwB (bl h1_0) h1_1))))), (.int IntKind.i64 (h2_5)), (.int IntKind.i64 (h2_6)), (.int IntKind.i64 (h2_7)), (.str (h2_8)), (.str (h2_9)), (.lst 3 h7), (.lst 9 h8), (.lst 65 h9), (.lst 51 h10), (.int IntKind.i64 (0))])))
 none)
 (cond (pwB (bl (mk (rwS (bl (mk (rwS (bl h1_0) h1_1))) (pwB (bl h1_0) h1_1)))) (pwB (bl (mk (rwS (bl h1_0) h1_1))) (pwB (bl h1_0) h1_1)))
 (some [(.int IntKind.i64 (0)), (.str (mk [])), (.str (mk [])), (.str (mk [])), (.int IntKind.i64 (0)), (.int IntKind.i64 (0)), (.int IntKind.i64 (0)), (.int IntKind.i64 (0)), (.str (mk [])), (.str (mk [])), (.lst 3 []), (.lst 9 []), (.lst 65 []), (.lst 51 []), (.int IntKind.i64 (3))])
 (cond (!bl (mk (rwS (bl (mk (rwS (bl (mk (rwS (bl h1_0) h1_1))) (pwB (bl h1_0) h1_1)))) (pwB (bl (mk (rwS (bl h1_0) h1_1))) (pwB (bl h1_0) h1_1)))) == bl (mk []))
 (some [(.int IntKind.i64 (0)), (.str (mk [])), (.str (mk [])), (.str (mk [])), (.int IntKind.i64 (0)), (.int IntKind.i64 (0)), (.int IntKind.i64 (0)), (.int IntKind.i64 (0)), (.str (mk [])), (.str (mk [])), (.lst 3 []), (.lst 9 []), (.lst 65 []), (.lst 51 []), (.int IntKind.i64 (3))])
 (some [(.int IntKind.i64 (h2_0)), (.str (mk (rwW (bl h1_0) h1_1))), (.str (mk (rwW (bl (mk (rwS (bl h1_0) h1_1))) (pwB (bl h1_0) h1_1)))), (.str (mk (rwW (bl (mk (rwS (bl (mk (rwS (bl h1_0) h1_1))) (pwB (bl h1_0) h1_1)))) (pwB (bl (mk (rwS (bl h1_0) h1_1))) (pwB (bl h1_0) h1_1))))), (.int IntKind.i64 (h2_4)), (.int IntKind.i64 (h2_5)), (.int IntKind.i64 (h2_6)), (.int IntKind.i64 (h2_7)), (.str (h2_8)), (.str (h2_9)), (.lst 3 h7), (.lst 9 h8), (.lst 65 h9), (.lst 51 h10), (.int IntKind.i64 (0))]))))
 none)
 none)
 none)
 (cond (kind7 == 4)
 (cond (sm (List.length (bl h1_0)))
 (cond (sm (List.length (bl (mk (rwS (bl h1_0) h1_1)))))
 (cond (sm (List.length (bl (mk (rwS (bl (mk (rwS (bl h1_0) h1_1))) (pwB (bl h1_0) h1_1))))))
 (cond (kind7 == 4)
 (cond (sm (List.length (bl (mk (rwS (bl (mk (rwS (bl (mk (rwS (bl h1_0) h1_1))) (pwB (bl h1_0) h1_1)))) (pwB (bl (mk (rwS (bl h1_0) h1_1))) (pwB (bl h1_0) h1_1)))))))
 (cond (pnB (bl (mk (rwS (bl (mk (rwS (bl (mk (rwS (bl h1_0) h1_1))) (pwB (bl h1_0) h1_1)))) (pwB (bl (mk (rwS (bl h1_0) h1_1))) (pwB (bl h1_0) h1_1))))) (pwB (bl (mk (rwS (bl (mk (rwS (bl h1_0) h1_1))) (pwB (bl h1_0) h1_1)))) (pwB (bl (mk (rwS (bl h1_0) h1_1))) (pwB (bl h1_0) h1_1))))
 (some [(.int IntKind.i64 (0)), (.str (mk [])), (.str (mk [])), (.str (mk [])), (.int IntKind.i64 (0)), (.int IntKind.i64 (0)), (.int IntKind.i64 (0)), (.int IntKind.i64 (0)), (.str (mk [])), (.str (mk [])), (.lst 3 []), (.lst 9 []), (.lst 65 []), (.lst 51 []), (.int IntKind.i64 (3))])
 (cond (!bl (mk (rwS (bl (mk (rwS (bl (mk (rwS (bl (mk (rwS (bl h1_0) h1_1))) (pwB (bl h1_0) h1_1)))) (pwB (bl (mk (rwS (bl h1_0) h1_1))) (pwB (bl h1_0) h1_1))))) (pwB (bl (mk (rwS (bl (mk (rwS (bl h1_0) h1_1))) (pwB (bl h1_0) h1_1)))) (pwB (bl (mk (rwS (bl h1_0) h1_1))) (pwB (bl h1_0) h1_1))))) == bl (mk []))
 (some [(.int IntKind.i64 (0)), (.str (mk [])), (.str (mk [])), (.str (mk [])), (.int IntKind.i64 (0)), (.int IntKind.i64 (0)), (.int IntKind.i64 (0)), (.int IntKind.i64 (0)), (.str (mk [])), (.str (mk [])), (.lst 3 []), (.lst 9 []), (.lst 65 []), (.lst 51 []), (.int IntKind.i64 (3))])
 (some [(.int IntKind.i64 (h2_0)), (.str (mk (rwW (bl h1_0) h1_1))), (.str (mk (rwW (bl (mk (rwS (bl h1_0) h1_1))) (pwB (bl h1_0) h1_1)))), (.str (mk (rwW (bl (mk (rwS (bl (mk (rwS (bl h1_0) h1_1))) (pwB (bl h1_0) h1_1)))) (pwB (bl (mk (rwS (bl h1_0) h1_1))) (pwB (bl h1_0) h1_1))))), (.int IntKind.i64 (pnV (bl (mk (rwS (bl (mk (rwS (bl (mk (rwS (bl h1_0) h1_1))) (pwB (bl h1_0) h1_1)))) (pwB (bl (mk (rwS (bl h1_0) h1_1))) (pwB (bl h1_0) h1_1))))) (pwB (bl (mk (rwS (bl (mk (rwS (bl h1_0) h1_1))) (pwB (bl h1_0) h1_1)))) (pwB (bl (mk (rwS (bl h1_0) h1_1))) (pwB (bl h1_0) h1_1))))), (.int IntKind.i64 (h2_5)), (.int IntKind.i64 (h2_6)), (.int IntKind.i64 (h2_7)), (.str (h2_8)), (.str (h2_9)), (.lst 3 h7), (.lst 9 h8), (.lst 65 h9), (.lst 51 h10), (.int IntKind.i64 (0))])))
 none)
 (cond (pwB (bl (mk (rwS (bl (mk (rwS (bl h1_0) h1_1))) (pwB (bl h1_0) h1_1)))) (pwB (bl (mk (rwS (bl h1_0) h1_1))) (pwB (bl h1_0) h1_1)))
 (some [(.int IntKind.i64 (0)), (.str (mk [])), (.str (mk [])), (.str (mk [])), (.int IntKind.i64 (0)), (.int IntKind.i64 (0)), (.int IntKind.i64 (0)), (.int IntKind.i64 (0)), (.str (mk [])), (.str (mk [])), (.lst 3 []), (.lst 9 []), (.lst 65 []), (.lst 51 []), (.int IntKind.i64 (3))])
 (cond (!bl (mk (rwS (bl (mk (rwS (bl (mk (rwS (bl h1_0) h1_1))) (pwB (bl h1_0) h1_1)))) (pwB (bl (mk (rwS (bl h1_0) h1_1))) (pwB (bl h1_0) h1_1)))) == bl (mk []))
 (some [(.int IntKind.i64 (0)), (.str (mk [])), (.str (mk [])), (.str (mk [])), (.int IntKind.i64 (0)), (.int IntKind.i64 (0)), (.int IntKind.i64 (0)), (.int IntKind.i64 (0)), (.str (mk [])), (.str (mk [])), (.lst 3 []), (.lst 9 []), (.lst 65 []), (.lst 51 []), (.int IntKind.i64 (3))])
 (some [(.int IntKind.i64 (h2_0)), (.str (mk (rwW (bl h1_0) h1_1))), (.str (mk (rwW (bl (mk (rwS (bl h1_0) h1_1))) (pwB (bl h1_0) h1_1)))), (.str (mk (rwW (bl (mk (rwS (bl (mk (rwS (bl h1_0) h1_1))) (pwB (bl h1_0) h1_1)))) (pwB (bl (mk (rwS (bl h1_0) h1_1))) (pwB (bl h1_0) h1_1))))), (.int IntKind.i64 (h2_4)), (.int IntKind.i64 (h2_5)), (.int IntKind.i64 (h2_6)), (.int IntKind.i64 (h2_7)), (.str (h2_8)), (.str (h2_9)), (.lst 3 h7), (.lst 9 h8), (.lst 65 h9), (.lst 51 h10), (.int IntKind.i64 (0))]))))
 none)
 none)
 none)
 (cond (kind7 == 3)
 (cond (sm (List.length (bl h1_0)))
 (cond (sm (List.length (bl (mk (rwS (bl h1_0) h1_1)))))
 (cond (pwB (bl (mk (rwS (bl h1_0) h1_1))) (pwB (bl h1_0) h1_1))
 (some [(.int IntKind.i64 (0)), (.str (mk [])), (.str (mk [])), (.str (mk [])), (.int IntKind.i64 (0)), (.int IntKind.i64 (0)), (.int IntKind.i64 (0)), (.int IntKind.i64 (0)), (.str (mk [])), (.str (mk [])), (.lst 3 []), (.lst 9 []), (.lst 65 []), (.lst 51 []), (.int IntKind.i64 (3))])
 (cond (!bl (mk (rwS (bl (mk (rwS (bl h1_0) h1_1))) (pwB (bl h1_0) h1_1))) == bl (mk []))
 (some [(.int IntKind.i64 (0)), (.str (mk [])), (.str (mk [])), (.str (mk [])), (.int IntKind.i64 (0)), (.int IntKind.i64 (0)), (.int IntKind.i64 (0)), (.int IntKind.i64 (0)), (.str (mk [])), (.str (mk [])), (.lst 3 []), (.lst 9 []), (.lst 65 []), (.lst 51 []), (.int IntKind.i64 (3))])
 (some [(.int IntKind.i64 (h2_0)), (.str (mk (rwW (bl h1_0) h1_1))), (.str (mk (rwW (bl (mk (rwS (bl h1_0) h1_1))) (pwB (bl h1_0) h1_1)))), (.str (h2_3)), (.int IntKind.i64 (h2_4)), (.int IntKind.i64 (h2_5)), (.int IntKind.i64 (h2_6)), (.int IntKind.i64 (h2_7)), (.str (h2_8)), (.str (h2_9)), (.lst 3 h7), (.lst 9 h8), (.lst 65 h9), (.lst 51 h10), (.int IntKind.i64 (0))])))
 none)
 none)
 (cond (kind7 == 6)
 (cond (sm (List.length (bl h1_0)))
 (cond (pnB (bl h1_0) h1_1)
 (some [(.int IntKind.i64 (0)), (.str (mk [])), (.str (mk [])), (.str (mk [])), (.int IntKind.i64 (0)), (.int IntKind.i64 (0)), (.int IntKind.i64 (0)), (.int IntKind.i64 (0)), (.str (mk [])), (.str (mk [])), (.lst 3 []), (.lst 9 []), (.lst 65 []), (.lst 51 []), (.int IntKind.i64 (3))])
 (cond (!bl (mk (rwS (bl h1_0) h1_1)) == bl (mk []))
 (some [(.int IntKind.i64 (0)), (.str (mk [])), (.str (mk [])), (.str (mk [])), (.int IntKind.i64 (0)), (.int IntKind.i64 (0)), (.int IntKind.i64 (0)), (.int IntKind.i64 (0)), (.str (mk [])), (.str (mk [])), (.lst 3 []), (.lst 9 []), (.lst 65 []), (.lst 51 []), (.int IntKind.i64 (3))])
 (some [(.int IntKind.i64 (h2_0)), (.str (h2_1)), (.str (h2_2)), (.str (h2_3)), (.int IntKind.i64 (h2_4)), (.int IntKind.i64 (pnV (bl h1_0) h1_1)), (.int IntKind.i64 (h2_6)), (.int IntKind.i64 (h2_7)), (.str (h2_8)), (.str (h2_9)), (.lst 3 h7), (.lst 9 h8), (.lst 65 h9), (.lst 51 h10), (.int IntKind.i64 (0))])))
 none)
 (cond (kind7 == 11)
 (cond (sm (List.length (bl h1_0)))
 (cond (pnB (bl h1_0) h1_1)
 (some [(.int IntKind.i64 (0)), (.str (mk [])), (.str (mk [])), (.str (mk [])), (.int IntKind.i64 (0)), (.int IntKind.i64 (0)), (.int IntKind.i64 (0)), (.int IntKind.i64 (0)), (.str (mk [])), (.str (mk [])), (.lst 3 []), (.lst 9 []), (.lst 65 []), (.lst 51 []), (.int IntKind.i64 (3))])
 (cond (!bl (mk (rwS (bl h1_0) h1_1)) == bl (mk []))
 (some [(.int IntKind.i64 (0)), (.str (mk [])), (.str (mk [])), (.str (mk [])), (.int IntKind.i64 (0)), (.int IntKind.i64 (0)), (.int IntKind.i64 (0)), (.int IntKind.i64 (0)), (.str (mk [])), (.str (mk [])), (.lst 3 []), (.lst 9 []), (.lst 65 []), (.lst 51 []), (.int IntKind.i64 (3))])
 (some [(.int IntKind.i64 (h2_0)), (.str (h2_1)), (.str (h2_2)), (.str (h2_3)), (.int IntKind.i64 (h2_4)), (.int IntKind.i64 (pnV (bl h1_0) h1_1)), (.int IntKind.i64 (h2_6)), (.int IntKind.i64 (h2_7)), (.str (h2_8)), (.str (h2_9)), (.lst 3 h7), (.lst 9 h8), (.lst 65 h9), (.lst 51 h10), (.int IntKind.i64 (0))])))
 none)
 (cond (kind7 == 14)
 (cond (sm (List.length (bl h1_0)))
 (cond (pnB (bl h1_0) h1_1)
 (some [(.int IntKind.i64 (0)), (.str (mk [])), (.str (mk [])), (.str (mk [])), (.int IntKind.i64 (0)), (.int IntKind.i64 (0)), (.int IntKind.i64 (0)), (.int IntKind.i64 (0)), (.str (mk [])), (.str (mk [])), (.lst 3 []), (.lst 9 []), (.lst 65 []), (.lst 51 []), (.int IntKind.i64 (3))])
 (cond (!bl (mk (rwS (bl h1_0) h1_1)) == bl (mk []))
 (some [(.int IntKind.i64 (0)), (.str (mk [])), (.str (mk [])), (.str (mk [])), (.int IntKind.i64 (0)), (.int IntKind.i64 (0)), (.int IntKind.i64 (0)), (.int IntKind.i64 (0)), (.str (mk [])), (.str (mk [])), (.lst 3 []), (.lst 9 []), (.lst 65 []), (.lst 51 []), (.int IntKind.i64 (3))])
 (some [(.int IntKind.i64 (h2_0)), (.str (h2_1)), (.str (h2_2)), (.str (h2_3)), (.int IntKind.i64 (h2_4)), (.int IntKind.i64 (pnV (bl h1_0) h1_1)), (.int IntKind.i64 (h2_6)), (.int IntKind.i64 (h2_7)), (.str (h2_8)), (.str (h2_9)), (.lst 3 h7), (.lst 9 h8), (.lst 65 h9), (.lst 51 h10), (.int IntKind.i64 (0))])))
 none)
 (cond (kind7 == 15)
 (cond (sm (List.length (bl h1_0)))
 (cond (sm (List.length (bl (mk (rwS (bl h1_0) h1_1)))))
 (cond (pnB (bl (mk (rwS (bl h1_0) h1_1))) (pnB (bl h1_0) h1_1))
 (some [(.int IntKind.i64 (0)), (.str (mk [])), (.str (mk [])), (.str (mk [])), (.int IntKind.i64 (0)), (.int IntKind.i64 (0)), (.int IntKind.i64 (0)), (.int IntKind.i64 (0)), (.str (mk [])), (.str (mk [])), (.lst 3 []), (.lst 9 []), (.lst 65 []), (.lst 51 []), (.int IntKind.i64 (3))])
 (cond (!bl (mk (rwS (bl (mk (rwS (bl h1_0) h1_1))) (pnB (bl h1_0) h1_1))) == bl (mk []))
 (some [(.int IntKind.i64 (0)), (.str (mk [])), (.str (mk [])), (.str (mk [])), (.int IntKind.i64 (0)), (.int IntKind.i64 (0)), (.int IntKind.i64 (0)), (.int IntKind.i64 (0)), (.str (mk [])), (.str (mk [])), (.lst 3 []), (.lst 9 []), (.lst 65 []), (.lst 51 []), (.int IntKind.i64 (3))])
 (some [(.int IntKind.i64 (h2_0)), (.str (h2_1)), (.str (h2_2)), (.str (h2_3)), (.int IntKind.i64 (h2_4)), (.int IntKind.i64 (pnV (bl h1_0) h1_1)), (.int IntKind.i64 (pnV (bl (mk (rwS (bl h1_0) h1_1))) (pnB (bl h1_0) h1_1))), (.int IntKind.i64 (h2_7)), (.str (h2_8)), (.str (h2_9)), (.lst 3 h7), (.lst 9 h8), (.lst 65 h9), (.lst 51 h10), (.int IntKind.i64 (0))])))
 none)
 none)
 (cond (kind7 == 17)
 (cond (sm (List.length (bl h1_0)))
 (cond (sm (List.length (bl (mk (rwS (bl h1_0) h1_1)))))
 (cond (pnB (bl (mk (rwS (bl h1_0) h1_1))) (pnB (bl h1_0) h1_1))
 (some [(.int IntKind.i64 (0)), (.str (mk [])), (.str (mk [])), (.str (mk [])), (.int IntKind.i64 (0)), (.int IntKind.i64 (0)), (.int IntKind.i64 (0)), (.int IntKind.i64 (0)), (.str (mk [])), (.str (mk [])), (.lst 3 []), (.lst 9 []), (.lst 65 []), (.lst 51 []), (.int IntKind.i64 (3))])
 (cond (!bl (mk (rwS (bl (mk (rwS (bl h1_0) h1_1))) (pnB (bl h1_0) h1_1))) == bl (mk []))
 (some [(.int IntKind.i64 (0)), (.str (mk [])), (.str (mk [])), (.str (mk [])), (.int IntKind.i64 (0)), (.int IntKind.i64 (0)), (.int IntKind.i64 (0)), (.int IntKind.i64 (0)), (.str (mk [])), (.str (mk [])), (.lst 3 []), (.lst 9 []), (.lst 65 []), (.lst 51 []), (.int IntKind.i64 (3))])
 (some [(.int IntKind.i64 (h2_0)), (.str (h2_1)), (.str (h2_2)), (.str (h2_3)), (.int IntKind.i64 (h2_4)), (.int IntKind.i64 (pnV (bl h1_0) h1_1)), (.int IntKind.i64 (pnV (bl (mk (rwS (bl h1_0) h1_1))) (pnB (bl h1_0) h1_1))), (.int IntKind.i64 (h2_7)), (.str (h2_8)), (.str (h2_9)), (.lst 3 h7), (.lst 9 h8), (.lst 65 h9), (.lst 51 h10), (.int IntKind.i64 (0))])))
 none)
 none)
 (cond (kind7 == 18)
 (cond (sm (List.length (bl h1_0)))
 (cond (sm (List.length (bl (mk (rwS (bl h1_0) h1_1)))))
 (cond (pnB (bl (mk (rwS (bl h1_0) h1_1))) (pnB (bl h1_0) h1_1))
 (some [(.int IntKind.i64 (0)), (.str (mk [])), (.str (mk [])), (.str (mk [])), (.int IntKind.i64 (0)), (.int IntKind.i64 (0)), (.int IntKind.i64 (0)), (.int IntKind.i64 (0)), (.str (mk [])), (.str (mk [])), (.lst 3 []), (.lst 9 []), (.lst 65 []), (.lst 51 []), (.int IntKind.i64 (3))])
 (cond (!bl (mk (rwS (bl (mk (rwS (bl h1_0) h1_1))) (pnB (bl h1_0) h1_1))) == bl (mk []))
 (some [(.int IntKind.i64 (0)), (.str (mk [])), (.str (mk [])), (.str (mk [])), (.int IntKind.i64 (0)), (.int IntKind.i64 (0)), (.int IntKind.i64 (0)), (.int IntKind.i64 (0)), (.str (mk [])), (.str (mk [])), (.lst 3 []), (.lst 9 []), (.lst 65 []), (.lst 51 []), (.int IntKind.i64 (3))])
 (some [(.int IntKind.i64 (h2_0)), (.str (h2_1)), (.str (h2_2)), (.str (h2_3)), (.int IntKind.i64 (h2_4)), (.int IntKind.i64 (pnV (bl h1_0) h1_1)), (.int IntKind.i64 (pnV (bl (mk (rwS (bl h1_0) h1_1))) (pnB (bl h1_0) h1_1))), (.int IntKind.i64 (h2_7)), (.str (h2_8)), (.str (h2_9)), (.lst 3 h7), (.lst 9 h8), (.lst 65 h9), (.lst 51 h10), (.int IntKind.i64 (0))])))
 none)
 none)
 (cond (kind7 == 16)
 (cond (sm (List.length (bl h1_0)))
 (cond (sm (List.length (bl (mk (rwS (bl h1_0) h1_1)))))
 (cond (sm (List.length (bl (mk (rwS (bl (mk (rwS (bl h1_0) h1_1))) (pnB (bl h1_0) h1_1))))))
 (cond (pnB (bl (mk (rwS (bl (mk (rwS (bl h1_0) h1_1))) (pnB (bl h1_0) h1_1)))) (pnB (bl (mk (rwS (bl h1_0) h1_1))) (pnB (bl h1_0) h1_1)))
 (some [(.int IntKind.i64 (0)), (.str (mk [])), (.str (mk [])), (.str (mk [])), (.int IntKind.i64 (0)), (.int IntKind.i64 (0)), (.int IntKind.i64 (0)), (.int IntKind.i64 (0)), (.str (mk [])), (.str (mk [])), (.lst 3 []), (.lst 9 []), (.lst 65 []), (.lst 51 []), (.int IntKind.i64 (3))])
 (cond (!bl (mk (rwS (bl (mk (rwS (bl (mk (rwS (bl h1_0) h1_1))) (pnB (bl h1_0) h1_1)))) (pnB (bl (mk (rwS (bl h1_0) h1_1))) (pnB (bl h1_0) h1_1)))) == bl (mk []))
 (some [(.int IntKind.i64 (0)), (.str (mk [])), (.str (mk [])), (.str (mk [])), (.int IntKind.i64 (0)), (.int IntKind.i64 (0)), (.int IntKind.i64 (0)), (.int IntKind.i64 (0)), (.str (mk [])), (.str (mk [])), (.lst 3 []), (.lst 9 []), (.lst 65 []), (.lst 51 []), (.int IntKind.i64 (3))])
 (some [(.int IntKind.i64 (h2_0)), (.str (h2_1)), (.str (h2_2)), (.str (h2_3)), (.int IntKind.i64 (h2_4)), (.int IntKind.i64 (pnV (bl h1_0) h1_1)), (.int IntKind.i64 (pnV (bl (mk (rwS (bl h1_0) h1_1))) (pnB (bl h1_0) h1_1))), (.int IntKind.i64 (pnV (bl (mk (rwS (bl (mk (rwS (bl h1_0) h1_1))) (pnB (bl h1_0) h1_1)))) (pnB (bl (mk (rwS (bl h1_0) h1_1))) (pnB (bl h1_0) h1_1)))), (.str (h2_8)), (.str (h2_9)), (.lst 3 h7), (.lst 9 h8), (.lst 65 h9), (.lst 51 h10), (.int IntKind.i64 (0))])))
 none)
 none)
 none)
 (cond (kind7 == 19)
 (cond (sm (List.length (bl h1_0)))
 (cond (sm (List.length (bl (mk (rwS (bl h1_0) h1_1)))))
 (cond (sm (List.length (bl (mk (rwS (bl (mk (rwS (bl h1_0) h1_1))) (pnB (bl h1_0) h1_1))))))
 (cond (pnB (bl (mk (rwS (bl (mk (rwS (bl h1_0) h1_1))) (pnB (bl h1_0) h1_1)))) (pnB (bl (mk (rwS (bl h1_0) h1_1))) (pnB (bl h1_0) h1_1)))
 (some [(.int IntKind.i64 (0)), (.str (mk [])), (.str (mk [])), (.str (mk [])), (.int IntKind.i64 (0)), (.int IntKind.i64 (0)), (.int IntKind.i64 (0)), (.int IntKind.i64 (0)), (.str (mk [])), (.str (mk [])), (.lst 3 []), (.lst 9 []), (.lst 65 []), (.lst 51 []), (.int IntKind.i64 (3))])
 (cond (!bl (mk (rwS (bl (mk (rwS (bl (mk (rwS (bl h1_0) h1_1))) (pnB (bl h1_0) h1_1)))) (pnB (bl (mk (rwS (bl h1_0) h1_1))) (pnB (bl h1_0) h1_1)))) == bl (mk []))
 (some [(.int IntKind.i64 (0)), (.str (mk [])), (.str (mk [])), (.str (mk [])), (.int IntKind.i64 (0)), (.int IntKind.i64 (0)), (.int IntKind.i64 (0)), (.int IntKind.i64 (0)), (.str (mk [])), (.str (mk [])), (.lst 3 []), (.lst 9 []), (.lst 65 []), (.lst 51 []), (.int IntKind.i64 (3))])
 (some [(.int IntKind.i64 (h2_0)), (.str (h2_1)), (.str (h2_2)), (.str (h2_3)), (.int IntKind.i64 (h2_4)), (.int IntKind.i64 (pnV (bl h1_0) h1_1)), (.int IntKind.i64 (pnV (bl (mk (rwS (bl h1_0) h1_1))) (pnB (bl h1_0) h1_1))), (.int IntKind.i64 (pnV (bl (mk (rwS (bl (mk (rwS (bl h1_0) h1_1))) (pnB (bl h1_0) h1_1)))) (pnB (bl (mk (rwS (bl h1_0) h1_1))) (pnB (bl h1_0) h1_1)))), (.str (h2_8)), (.str (h2_9)), (.lst 3 h7), (.lst 9 h8), (.lst 65 h9), (.lst 51 h10), (.int IntKind.i64 (0))])))
 none)
 none)
 none)
 (cond (h1_1)
 (some [(.int IntKind.i64 (0)), (.str (mk [])), (.str (mk [])), (.str (mk [])), (.int IntKind.i64 (0)), (.int IntKind.i64 (0)), (.int IntKind.i64 (0)), (.int IntKind.i64 (0)), (.str (mk [])), (.str (mk [])), (.lst 3 []), (.lst 9 []), (.lst 65 []), (.lst 51 []), (.int IntKind.i64 (3))])
 (cond (!bl h1_0 == bl (mk []))
 (some [(.int IntKind.i64 (0)), (.str (mk [])), (.str (mk [])), (.str (mk [])), (.int IntKind.i64 (0)), (.int IntKind.i64 (0)), (.int IntKind.i64 (0)), (.int IntKind.i64 (0)), (.str (mk [])), (.str (mk [])), (.lst 3 []), (.lst 9 []), (.lst 65 []), (.lst 51 []), (.int IntKind.i64 (3))])
 (some [(.int IntKind.i64 (h2_0)), (.str (h2_1)), (.str (h2_2)), (.str (h2_3)), (.int IntKind.i64 (h2_4)), (.int IntKind.i64 (h2_5)), (.int IntKind.i64 (h2_6)), (.int IntKind.i64 (h2_7)), (.str (h2_8)), (.str (h2_9)), (.lst 3 h7), (.lst 9 h8), (.lst 65 h9), (.lst 51 h10), (.int IntKind.i64 (0))])))))))))))))))))))))))) := by kernel_rfl

end Go.Ab
namespace Go.Ab
open Go.Proofs
noncomputable def plists_q10 (h0_0 : ByteArray) (h0_1 : Bool) (h1_0 : Int) (h1_1 : ByteArray) (h1_2 : ByteArray) (h1_3 : ByteArray) (h1_4 : Int) (h1_5 : Int) (h1_6 : Int) (h1_7 : Int) (h1_8 : ByteArray) (h1_9 : ByteArray) (h2 : List (List L)) (h3 : List (List L)) (h4 : List (List L)) (h5 : List (List L)) : Req := .point 39 [(.box [.str, .bool] [.any, .any]), (.box [(.int IntKind.i64), .str, .str, .str, (.int IntKind.i64), (.int IntKind.i64), (.int IntKind.i64), (.int IntKind.i64), .str, .str, (.sl 3), (.sl 9), (.sl 65), (.sl 51)] [.any, .any, .any, .any, .any, .any, .any, .any, .any, .any, .any, .any, .any, .any]), .no, .no, .no, .no] (todoAt Tryz.prog 39 10) ⟨[(.lf (.ptr 0 0)), (.lf (.ptr 1 0)), an, an, an, an, an, an, an, an, an, an, an, an, an, an, an, an, an, an, an, an, an, an, an, an, an, an, an, an, an, an, an, an, an, an, an, an, an, an, an, an, an, an, an, an, an, an, an, an, an, an, an, an, an, an, an, an, an, an, an, an, an, an, an, an, an, an, an, an, an, an, an, an, an, an, an, an, an, an, an, an, an, an, an, an, an, an, an, an, an, an, an, an, an, an, an, an, an, an, an, an, an, an, an, an, an, an, an, an, an, an, an, an, an, an, an, an, an, an, an, an, an, an, an, an, an, an, an, an, an, an, an, an, an, an, an, an, an, an, an, an, an, an, an, an, an, an, an, an, an, an, an, an, an, an, an, an, an, an, an, an, an], [(.box [.str, .bool] [(.str h0_0), (.bool h0_1)]), (.box [(.int IntKind.i64), .str, .str, .str, (.int IntKind.i64), (.int IntKind.i64), (.int IntKind.i64), (.int IntKind.i64), .str, .str, (.sl 3), (.sl 9), (.sl 65), (.sl 51)] [(.int IntKind.i64 h1_0), (.str h1_1), (.str h1_2), (.str h1_3), (.int IntKind.i64 h1_4), (.int IntKind.i64 h1_5), (.int IntKind.i64 h1_6), (.int IntKind.i64 h1_7), (.str h1_8), (.str h1_9), (.row 2), (.row 3), (.row 4), (.row 5)]), (.row 3 h2 true), (.row 9 h3 true), (.row 65 h4 true), (.row 51 h5 true)]⟩
noncomputable def plists_q19 (h0_0 : ByteArray) (h0_1 : Bool) (h1_0 : Int) (h1_1 : ByteArray) (h1_2 : ByteArray) (h1_3 : ByteArray) (h1_4 : Int) (h1_5 : Int) (h1_6 : Int) (h1_7 : Int) (h1_8 : ByteArray) (h1_9 : ByteArray) (h2 : List (List L)) (h3 : List (List L)) (h4 : List (List L)) (h5 : List (List L)) : Req := .point 39 [(.box [.str, .bool] [.any, .any]), (.box [(.int IntKind.i64), .str, .str, .str, (.int IntKind.i64), (.int IntKind.i64), (.int IntKind.i64), (.int IntKind.i64), .str, .str, (.sl 3), (.sl 9), (.sl 65), (.sl 51)] [.any, .any, .any, .any, .any, .any, .any, .any, .any, .any, .any, .any, .any, .any]), .no, .no, .no, .no] (todoAt Tryz.prog 39 19) ⟨[(.lf (.ptr 0 0)), (.lf (.ptr 1 0)), an, an, an, an, an, an, an, an, an, an, an, an, an, an, an, an, an, an, an, an, an, an, an, an, an, an, an, an, an, an, an, an, an, an, an, an, an, an, an, an, an, an, an, an, an, an, an, an, an, an, an, an, an, an, an, an, an, an, an, an, an, an, an, an, an, an, an, an, an, an, an, an, an, an, an, an, an, an, an, an, an, an, an, an, an, an, an, an, an, an, an, an, an, an, an, an, an, an, an, an, an, an, an, an, an, an, an, an, an, an, an, an, an, an, an, an, an, an, an, an, an, an, an, an, an, an, an, an, an, an, an, an, an, an, an, an, an, an, an, an, an, an, an, an, an, an, an, an, an, an, an, an, an, an, an, an, an, an, an, an, an], [(.box [.str, .bool] [(.str h0_0), (.bool h0_1)]), (.box [(.int IntKind.i64), .str, .str, .str, (.int IntKind.i64), (.int IntKind.i64), (.int IntKind.i64), (.int IntKind.i64), .str, .str, (.sl 3), (.sl 9), (.sl 65), (.sl 51)] [(.int IntKind.i64 h1_0), (.str h1_1), (.str h1_2), (.str h1_3), (.int IntKind.i64 h1_4), (.int IntKind.i64 h1_5), (.int IntKind.i64 h1_6), (.int IntKind.i64 h1_7), (.str h1_8), (.str h1_9), (.row 2), (.row 3), (.row 4), (.row 5)]), (.row 3 h2 true), (.row 9 h3 true), (.row 65 h4 true), (.row 51 h5 true)]⟩
noncomputable def plists_q1 (h0_0 : ByteArray) (h0_1 : Bool) (h1_0 : Int) (h1_1 : ByteArray) (h1_2 : ByteArray) (h1_3 : ByteArray) (h1_4 : Int) (h1_5 : Int) (h1_6 : Int) (h1_7 : Int) (h1_8 : ByteArray) (h1_9 : ByteArray) (h2 : List (List L)) (h3 : List (List L)) (h4 : List (List L)) (h5 : List (List L)) : Req := .point 39 [(.box [.str, .bool] [.any, .any]), (.box [(.int IntKind.i64), .str, .str, .str, (.int IntKind.i64), (.int IntKind.i64), (.int IntKind.i64), (.int IntKind.i64), .str, .str, (.sl 3), (.sl 9), (.sl 65), (.sl 51)] [.any, .any, .any, .any, .any, .any, .any, .any, .any, .any, .any, .any, .any, .any]), .no, .no, .no, .no] (todoAt Tryz.prog 39 1) ⟨[(.lf (.ptr 0 0)), (.lf (.ptr 1 0)), an, an, an, an, an, an, an, an, an, an, an, an, an, an, an, an, an, an, an, an, an, an, an, an, an, an, an, an, an, an, an, an, an, an, an, an, an, an, an, an, an, an, an, an, an, an, an, an, an, an, an, an, an, an, an, an, an, an, an, an, an, an, an, an, an, an, an, an, an, an, an, an, an, an, an, an, an, an, an, an, an, an, an, an, an, an, an, an, an, an, an, an, an, an, an, an, an, an, an, an, an, an, an, an, an, an, an, an, an, an, an, an, an, an, an, an, an, an, an, an, an, an, an, an, an, an, an, an, an, an, an, an, an, an, an, an, an, an, an, an, an, an, an, an, an, an, an, an, an, an, an, an, an, an, an, an, an, an, an, an, an], [(.box [.str, .bool] [(.str h0_0), (.bool h0_1)]), (.box [(.int IntKind.i64), .str, .str, .str, (.int IntKind.i64), (.int IntKind.i64), (.int IntKind.i64), (.int IntKind.i64), .str, .str, (.sl 3), (.sl 9), (.sl 65), (.sl 51)] [(.int IntKind.i64 h1_0), (.str h1_1), (.str h1_2), (.str h1_3), (.int IntKind.i64 h1_4), (.int IntKind.i64 h1_5), (.int IntKind.i64 h1_6), (.int IntKind.i64 h1_7), (.str h1_8), (.str h1_9), (.row 2), (.row 3), (.row 4), (.row 5)]), (.row 3 h2 true), (.row 9 h3 true), (.row 65 h4 true), (.row 51 h5 true)]⟩
theorem plists_e (G : Req → R) (k : Int) (s : ByteArray) (b : Bool) : runB (cfg [c_pw, c_pn, c_pt, k_pmore]) G (.enter 39 [(.lf (.ptr 0 0)), (.lf (.ptr 1 0))] [(.box [.str, .bool] [(.str (s)), (.bool (b))]), (.box [(.int IntKind.i64), .str, .str, .str, (.int IntKind.i64), (.int IntKind.i64), (.int IntKind.i64), (.int IntKind.i64), .str, .str, (.sl 3), (.sl 9), (.sl 65), (.sl 51)] [(.int IntKind.i64 (k)), (.str (mk [])), (.str (mk [])), (.str (mk [])), (.int IntKind.i64 (0)), (.int IntKind.i64 (0)), (.int IntKind.i64 (0)), (.int IntKind.i64 (0)), (.str (mk [])), (.str (mk [])), (.row (2)), (.row (3)), (.row (4)), (.row (5))]), (.row 3 [] true), (.row 9 [] true), (.row 65 [] true), (.row 51 [] true)]) =
 (cond (k == 1)
 (cond (sm (List.length (bl s)))
 (cond (sm (List.length (bl (mk (rwS (bl s) b)))))
 (cond (sm (List.length (bl (mk (rwS (bl (mk (rwS (bl s) b))) (pwB (bl s) b))))))
 (G (plists_q10 (mk (rwS (bl (mk (rwS (bl (mk (rwS (bl s) b))) (pwB (bl s) b)))) (pwB (bl (mk (rwS (bl s) b))) (pwB (bl s) b)))) (pnB (bl (mk (rwS (bl (mk (rwS (bl s) b))) (pwB (bl s) b)))) (pwB (bl (mk (rwS (bl s) b))) (pwB (bl s) b))) k (mk (rwW (bl s) b)) (mk (rwW (bl (mk (rwS (bl s) b))) (pwB (bl s) b))) (mk []) (pnV (bl (mk (rwS (bl (mk (rwS (bl s) b))) (pwB (bl s) b)))) (pwB (bl (mk (rwS (bl s) b))) (pwB (bl s) b))) 0 0 0 (mk []) (mk []) [] [] [] []))
 none)
 none)
 none)
 (cond (k == 7)
 (cond (sm (List.length (bl s)))
 (G (plists_q19 (mk (rwS (bl s) b)) (pwB (bl s) b) k (mk []) (mk []) (mk []) 0 0 0 0 (mk []) (mk (rwW (bl s) b)) [] [] [] []))
 none)
 (G (plists_q1 s b k (mk []) (mk []) (mk []) 0 0 0 0 (mk []) (mk []) [] [] [] [])))) := by kernel_rfl
theorem plists_p10 (G : Req → R) (h0_0 : ByteArray) (h0_1 : Bool) (h1_0 : Int) (h1_1 : ByteArray) (h1_2 : ByteArray) (h1_3 : ByteArray) (h1_4 : Int) (h1_5 : Int) (h1_6 : Int) (h1_7 : Int) (h1_8 : ByteArray) (h1_9 : ByteArray) (h2 : List (List L)) (h3 : List (List L)) (h4 : List (List L)) (h5 : List (List L)) : runB (cfg [c_pw, c_pn, c_pt, k_pmore]) G (plists_q10 h0_0 h0_1 h1_0 h1_1 h1_2 h1_3 h1_4 h1_5 h1_6 h1_7 h1_8 h1_9 h2 h3 h4 h5) =
 (cond (!h0_1 && !List.isEmpty (bl h0_0))
 (cond (sm (List.length (bl (mk (bl h0_0)))))
 (cond (bl (mk (rwW (bl (mk (bl h0_0))) h0_1)) == bl (mk [112, 117, 116]))
 (both
 (cond (sm (List.length (bl (mk (rwS (bl (mk (bl h0_0))) h0_1)))))
 (cond (sm (List.length (bl (mk (rwS (bl (mk (rwS (bl (mk (bl h0_0))) h0_1))) (pwB (bl (mk (bl h0_0))) h0_1))))))
 (cond (roomN (List.length h5 + 1) 40)
 (G (plists_q10 (mk (ptS (bl (mk (rwS (bl (mk (rwS (bl (mk (bl h0_0))) h0_1))) (pwB (bl (mk (bl h0_0))) h0_1)))) (pwB (bl (mk (rwS (bl (mk (bl h0_0))) h0_1))) (pwB (bl (mk (bl h0_0))) h0_1)))) (ptB (bl (mk (rwS (bl (mk (rwS (bl (mk (bl h0_0))) h0_1))) (pwB (bl (mk (bl h0_0))) h0_1)))) (pwB (bl (mk (rwS (bl (mk (bl h0_0))) h0_1))) (pwB (bl (mk (bl h0_0))) h0_1))) h1_0 h1_1 h1_2 h1_3 h1_4 h1_5 h1_6 h1_7 h1_8 h1_9 h2 h3 h4 (h5 ++ [[L.str (mk (rwW (bl (mk (rwS (bl (mk (bl h0_0))) h0_1))) (pwB (bl (mk (bl h0_0))) h0_1))), L.str (mk (ptV (bl (mk (rwS (bl (mk (rwS (bl (mk (bl h0_0))) h0_1))) (pwB (bl (mk (bl h0_0))) h0_1)))) (pwB (bl (mk (rwS (bl (mk (bl h0_0))) h0_1))) (pwB (bl (mk (bl h0_0))) h0_1)))), L.bool false]])))
 none)
 none)
 none)
 (cond (sm (List.length (bl (mk (rwS (bl (mk (bl h0_0))) h0_1)))))
 (dupN 1
 (cond (sm (List.length (bl (mk (rwS (bl (mk (rwS (bl (mk (bl h0_0))) h0_1))) (pwB (bl (mk (bl h0_0))) h0_1))))))
 (cond (roomN (List.length h5 + 1) 40)
 (G (plists_q10 (mk (ptS (bl (mk (rwS (bl (mk (rwS (bl (mk (bl h0_0))) h0_1))) (pwB (bl (mk (bl h0_0))) h0_1)))) (pwB (bl (mk (rwS (bl (mk (bl h0_0))) h0_1))) (pwB (bl (mk (bl h0_0))) h0_1)))) (ptB (bl (mk (rwS (bl (mk (rwS (bl (mk (bl h0_0))) h0_1))) (pwB (bl (mk (bl h0_0))) h0_1)))) (pwB (bl (mk (rwS (bl (mk (bl h0_0))) h0_1))) (pwB (bl (mk (bl h0_0))) h0_1))) h1_0 h1_1 h1_2 h1_3 h1_4 h1_5 h1_6 h1_7 h1_8 h1_9 h2 h3 h4 (h5 ++ [[L.str (mk (rwW (bl (mk (rwS (bl (mk (bl h0_0))) h0_1))) (pwB (bl (mk (bl h0_0))) h0_1))), L.str (mk (ptV (bl (mk (rwS (bl (mk (rwS (bl (mk (bl h0_0))) h0_1))) (pwB (bl (mk (bl h0_0))) h0_1)))) (pwB (bl (mk (rwS (bl (mk (bl h0_0))) h0_1))) (pwB (bl (mk (bl h0_0))) h0_1)))), L.bool false]])))
 none)
 none))
 none))
 (cond (bl (mk (rwW (bl (mk (bl h0_0))) h0_1)) == bl (mk [100, 101, 108]))
 (dupN 1
 (cond (sm (List.length (bl (mk (rwS (bl (mk (bl h0_0))) h0_1)))))
 (cond (roomN (List.length h5 + 1) 40)
 (G (plists_q10 (mk (rwS (bl (mk (rwS (bl (mk (bl h0_0))) h0_1))) (pwB (bl (mk (bl h0_0))) h0_1))) (pwB (bl (mk (rwS (bl (mk (bl h0_0))) h0_1))) (pwB (bl (mk (bl h0_0))) h0_1)) h1_0 h1_1 h1_2 h1_3 h1_4 h1_5 h1_6 h1_7 h1_8 h1_9 h2 h3 h4 (h5 ++ [[L.str (mk (rwW (bl (mk (rwS (bl (mk (bl h0_0))) h0_1))) (pwB (bl (mk (bl h0_0))) h0_1))), L.str (mk []), L.bool true]])))
 none)
 none))
 (G (plists_q10 (mk (rwS (bl (mk (bl h0_0))) h0_1)) true h1_0 h1_1 h1_2 h1_3 h1_4 h1_5 h1_6 h1_7 h1_8 h1_9 h2 h3 h4 h5))))
 none)
 (some [(.str (mk (bl h0_0))), (.bool (h0_1)), (.int IntKind.i64 (h1_0)), (.str (h1_1)), (.str (h1_2)), (.str (h1_3)), (.int IntKind.i64 (h1_4)), (.int IntKind.i64 (h1_5)), (.int IntKind.i64 (h1_6)), (.int IntKind.i64 (h1_7)), (.str (h1_8)), (.str (h1_9)), (.lst 3 h2), (.lst 9 h3), (.lst 65 h4), (.lst 51 h5)])) := by kernel_rfl
theorem plists_p19 (G : Req → R) (h0_0 : ByteArray) (h0_1 : Bool) (h1_0 : Int) (h1_1 : ByteArray) (h1_2 : ByteArray) (h1_3 : ByteArray) (h1_4 : Int) (h1_5 : Int) (h1_6 : Int) (h1_7 : Int) (h1_8 : ByteArray) (h1_9 : ByteArray) (h2 : List (List L)) (h3 : List (List L)) (h4 : List (List L)) (h5 : List (List L)) : runB (cfg [c_pw, c_pn, c_pt, k_pmore]) G (plists_q19 h0_0 h0_1 h1_0 h1_1 h1_2 h1_3 h1_4 h1_5 h1_6 h1_7 h1_8 h1_9 h2 h3 h4 h5) =
 (cond (!h0_1 && !List.isEmpty (bl h0_0))
 (cond (sm (List.length (bl (mk (bl h0_0)))))
 (cond (bl (mk (rwW (bl (mk (bl h0_0))) h0_1)) == bl (mk [117, 115, 101, 114]))
 (cond ((↑(List.length h3) : Int) == 0)
 (dupN 1
 (cond (sm (List.length (bl (mk (rwS (bl (mk (bl h0_0))) h0_1)))))
 (cond (roomN (List.length h2 + 1) 8)
 (G (plists_q19 (mk (rwS (bl (mk (rwS (bl (mk (bl h0_0))) h0_1))) (pwB (bl (mk (bl h0_0))) h0_1))) (pnB (bl (mk (rwS (bl (mk (bl h0_0))) h0_1))) (pwB (bl (mk (bl h0_0))) h0_1)) h1_0 h1_1 h1_2 h1_3 h1_4 h1_5 h1_6 h1_7 h1_8 h1_9 (h2 ++ [[L.int IntKind.i64 (pnV (bl (mk (rwS (bl (mk (bl h0_0))) h0_1))) (pwB (bl (mk (bl h0_0))) h0_1))]]) h3 h4 h5))
 none)
 none))
 (cond (bl (mk (rwW (bl (mk (bl h0_0))) h0_1)) == bl (mk [103, 114, 111, 117, 112]))
 (dupN 1
 (cond (sm (List.length (bl (mk (rwS (bl (mk (bl h0_0))) h0_1)))))
 (cond (roomN (List.length h3 + 1) 16)
 (G (plists_q19 (mk (rwS (bl (mk (rwS (bl (mk (bl h0_0))) h0_1))) (pwB (bl (mk (bl h0_0))) h0_1))) (pwB (bl (mk (rwS (bl (mk (bl h0_0))) h0_1))) (pwB (bl (mk (bl h0_0))) h0_1)) h1_0 h1_1 h1_2 h1_3 h1_4 h1_5 h1_6 h1_7 h1_8 h1_9 h2 (h3 ++ [[L.str (mk (rwW (bl (mk (rwS (bl (mk (bl h0_0))) h0_1))) (pwB (bl (mk (bl h0_0))) h0_1)))]]) h4 h5))
 none)
 none))
 (G (plists_q19 (mk (rwS (bl (mk (bl h0_0))) h0_1)) true h1_0 h1_1 h1_2 h1_3 h1_4 h1_5 h1_6 h1_7 h1_8 h1_9 h2 h3 h4 h5))))
 (cond (bl (mk (rwW (bl (mk (bl h0_0))) h0_1)) == bl (mk [103, 114, 111, 117, 112]))
 (dupN 1
 (cond (sm (List.length (bl (mk (rwS (bl (mk (bl h0_0))) h0_1)))))
 (cond (roomN (List.length h3 + 1) 16)
 (G (plists_q19 (mk (rwS (bl (mk (rwS (bl (mk (bl h0_0))) h0_1))) (pwB (bl (mk (bl h0_0))) h0_1))) (pwB (bl (mk (rwS (bl (mk (bl h0_0))) h0_1))) (pwB (bl (mk (bl h0_0))) h0_1)) h1_0 h1_1 h1_2 h1_3 h1_4 h1_5 h1_6 h1_7 h1_8 h1_9 h2 (h3 ++ [[L.str (mk (rwW (bl (mk (rwS (bl (mk (bl h0_0))) h0_1))) (pwB (bl (mk (bl h0_0))) h0_1)))]]) h4 h5))
 none)
 none))
 (G (plists_q19 (mk (rwS (bl (mk (bl h0_0))) h0_1)) true h1_0 h1_1 h1_2 h1_3 h1_4 h1_5 h1_6 h1_7 h1_8 h1_9 h2 h3 h4 h5))))
 none)
 (some [(.str (mk (bl h0_0))), (.bool (h0_1)), (.int IntKind.i64 (h1_0)), (.str (h1_1)), (.str (h1_2)), (.str (h1_3)), (.int IntKind.i64 (h1_4)), (.int IntKind.i64 (h1_5)), (.int IntKind.i64 (h1_6)), (.int IntKind.i64 (h1_7)), (.str (h1_8)), (.str (h1_9)), (.lst 3 h2), (.lst 9 h3), (.lst 65 h4), (.lst 51 h5)])) := by kernel_rfl
theorem plists_p1 (G : Req → R) (h0_0 : ByteArray) (h0_1 : Bool) (h1_0 : Int) (h1_1 : ByteArray) (h1_2 : ByteArray) (h1_3 : ByteArray) (h1_4 : Int) (h1_5 : Int) (h1_6 : Int) (h1_7 : Int) (h1_8 : ByteArray) (h1_9 : ByteArray) (h2 : List (List L)) (h3 : List (List L)) (h4 : List (List L)) (h5 : List (List L)) : runB (cfg [c_pw, c_pn, c_pt, k_pmore]) G (plists_q1 h0_0 h0_1 h1_0 h1_1 h1_2 h1_3 h1_4 h1_5 h1_6 h1_7 h1_8 h1_9 h2 h3 h4 h5) =
 (cond (!h0_1 && !List.isEmpty (bl h0_0))
 (cond (sm (List.length (bl (mk (bl h0_0)))))
 (cond (sm (List.length (bl (mk (rwS (bl (mk (bl h0_0))) h0_1)))))
 (cond (sm (List.length (bl (mk (rwS (bl (mk (rwS (bl (mk (bl h0_0))) h0_1))) (pwB (bl (mk (bl h0_0))) h0_1))))))
 (cond (sm (List.length (bl (mk (rwS (bl (mk (rwS (bl (mk (rwS (bl (mk (bl h0_0))) h0_1))) (pwB (bl (mk (bl h0_0))) h0_1)))) (pwB (bl (mk (rwS (bl (mk (bl h0_0))) h0_1))) (pwB (bl (mk (bl h0_0))) h0_1)))))))
 (cond (bl (mk (rwW (bl (mk (rwS (bl (mk (rwS (bl (mk (bl h0_0))) h0_1))) (pwB (bl (mk (bl h0_0))) h0_1)))) (pwB (bl (mk (rwS (bl (mk (bl h0_0))) h0_1))) (pwB (bl (mk (bl h0_0))) h0_1)))) == bl (mk [45]))
 (cond (pwB (bl (mk (rwS (bl (mk (rwS (bl (mk (rwS (bl (mk (bl h0_0))) h0_1))) (pwB (bl (mk (bl h0_0))) h0_1)))) (pwB (bl (mk (rwS (bl (mk (bl h0_0))) h0_1))) (pwB (bl (mk (bl h0_0))) h0_1))))) (pwB (bl (mk (rwS (bl (mk (rwS (bl (mk (bl h0_0))) h0_1))) (pwB (bl (mk (bl h0_0))) h0_1)))) (pwB (bl (mk (rwS (bl (mk (bl h0_0))) h0_1))) (pwB (bl (mk (bl h0_0))) h0_1))))
 (cond (roomN (List.length h4 + 1) 56)
 (G (plists_q1 (mk (rwS (bl (mk (rwS (bl (mk (rwS (bl (mk (rwS (bl (mk (bl h0_0))) h0_1))) (pwB (bl (mk (bl h0_0))) h0_1)))) (pwB (bl (mk (rwS (bl (mk (bl h0_0))) h0_1))) (pwB (bl (mk (bl h0_0))) h0_1))))) (pwB (bl (mk (rwS (bl (mk (rwS (bl (mk (bl h0_0))) h0_1))) (pwB (bl (mk (bl h0_0))) h0_1)))) (pwB (bl (mk (rwS (bl (mk (bl h0_0))) h0_1))) (pwB (bl (mk (bl h0_0))) h0_1))))) true h1_0 h1_1 h1_2 h1_3 h1_4 h1_5 h1_6 h1_7 h1_8 h1_9 h2 h3 (h4 ++ [[L.bool (bl (mk (rwW (bl (mk (bl h0_0))) h0_1)) == bl (mk [97, 108, 108, 111, 119])), L.str (mk (rwW (bl (mk (rwS (bl (mk (bl h0_0))) h0_1))) (pwB (bl (mk (bl h0_0))) h0_1))), L.str (mk []), L.str (mk (rwW (bl (mk (rwS (bl (mk (rwS (bl (mk (rwS (bl (mk (bl h0_0))) h0_1))) (pwB (bl (mk (bl h0_0))) h0_1)))) (pwB (bl (mk (rwS (bl (mk (bl h0_0))) h0_1))) (pwB (bl (mk (bl h0_0))) h0_1))))) (pwB (bl (mk (rwS (bl (mk (rwS (bl (mk (bl h0_0))) h0_1))) (pwB (bl (mk (bl h0_0))) h0_1)))) (pwB (bl (mk (rwS (bl (mk (bl h0_0))) h0_1))) (pwB (bl (mk (bl h0_0))) h0_1)))))]]) h5))
 none)
 (cond (!bl (mk (rwW (bl (mk (bl h0_0))) h0_1)) == bl (mk [97, 108, 108, 111, 119]))
 (cond (roomN (List.length h4 + 1) 56)
 (G (plists_q1 (mk (rwS (bl (mk (rwS (bl (mk (rwS (bl (mk (rwS (bl (mk (bl h0_0))) h0_1))) (pwB (bl (mk (bl h0_0))) h0_1)))) (pwB (bl (mk (rwS (bl (mk (bl h0_0))) h0_1))) (pwB (bl (mk (bl h0_0))) h0_1))))) (pwB (bl (mk (rwS (bl (mk (rwS (bl (mk (bl h0_0))) h0_1))) (pwB (bl (mk (bl h0_0))) h0_1)))) (pwB (bl (mk (rwS (bl (mk (bl h0_0))) h0_1))) (pwB (bl (mk (bl h0_0))) h0_1))))) (!bl (mk (rwW (bl (mk (bl h0_0))) h0_1)) == bl (mk [100, 101, 110, 121])) h1_0 h1_1 h1_2 h1_3 h1_4 h1_5 h1_6 h1_7 h1_8 h1_9 h2 h3 (h4 ++ [[L.bool (bl (mk (rwW (bl (mk (bl h0_0))) h0_1)) == bl (mk [97, 108, 108, 111, 119])), L.str (mk (rwW (bl (mk (rwS (bl (mk (bl h0_0))) h0_1))) (pwB (bl (mk (bl h0_0))) h0_1))), L.str (mk []), L.str (mk (rwW (bl (mk (rwS (bl (mk (rwS (bl (mk (rwS (bl (mk (bl h0_0))) h0_1))) (pwB (bl (mk (bl h0_0))) h0_1)))) (pwB (bl (mk (rwS (bl (mk (bl h0_0))) h0_1))) (pwB (bl (mk (bl h0_0))) h0_1))))) (pwB (bl (mk (rwS (bl (mk (rwS (bl (mk (bl h0_0))) h0_1))) (pwB (bl (mk (bl h0_0))) h0_1)))) (pwB (bl (mk (rwS (bl (mk (bl h0_0))) h0_1))) (pwB (bl (mk (bl h0_0))) h0_1)))))]]) h5))
 none)
 (cond (roomN (List.length h4 + 1) 56)
 (G (plists_q1 (mk (rwS (bl (mk (rwS (bl (mk (rwS (bl (mk (rwS (bl (mk (bl h0_0))) h0_1))) (pwB (bl (mk (bl h0_0))) h0_1)))) (pwB (bl (mk (rwS (bl (mk (bl h0_0))) h0_1))) (pwB (bl (mk (bl h0_0))) h0_1))))) (pwB (bl (mk (rwS (bl (mk (rwS (bl (mk (bl h0_0))) h0_1))) (pwB (bl (mk (bl h0_0))) h0_1)))) (pwB (bl (mk (rwS (bl (mk (bl h0_0))) h0_1))) (pwB (bl (mk (bl h0_0))) h0_1))))) false h1_0 h1_1 h1_2 h1_3 h1_4 h1_5 h1_6 h1_7 h1_8 h1_9 h2 h3 (h4 ++ [[L.bool (bl (mk (rwW (bl (mk (bl h0_0))) h0_1)) == bl (mk [97, 108, 108, 111, 119])), L.str (mk (rwW (bl (mk (rwS (bl (mk (bl h0_0))) h0_1))) (pwB (bl (mk (bl h0_0))) h0_1))), L.str (mk []), L.str (mk (rwW (bl (mk (rwS (bl (mk (rwS (bl (mk (rwS (bl (mk (bl h0_0))) h0_1))) (pwB (bl (mk (bl h0_0))) h0_1)))) (pwB (bl (mk (rwS (bl (mk (bl h0_0))) h0_1))) (pwB (bl (mk (bl h0_0))) h0_1))))) (pwB (bl (mk (rwS (bl (mk (rwS (bl (mk (bl h0_0))) h0_1))) (pwB (bl (mk (bl h0_0))) h0_1)))) (pwB (bl (mk (rwS (bl (mk (bl h0_0))) h0_1))) (pwB (bl (mk (bl h0_0))) h0_1)))))]]) h5))
 none)))
 (cond (pwB (bl (mk (rwS (bl (mk (rwS (bl (mk (rwS (bl (mk (bl h0_0))) h0_1))) (pwB (bl (mk (bl h0_0))) h0_1)))) (pwB (bl (mk (rwS (bl (mk (bl h0_0))) h0_1))) (pwB (bl (mk (bl h0_0))) h0_1))))) (pwB (bl (mk (rwS (bl (mk (rwS (bl (mk (bl h0_0))) h0_1))) (pwB (bl (mk (bl h0_0))) h0_1)))) (pwB (bl (mk (rwS (bl (mk (bl h0_0))) h0_1))) (pwB (bl (mk (bl h0_0))) h0_1))))
 (cond (roomN (List.length h4 + 1) 56)
 (G (plists_q1 (mk (rwS (bl (mk (rwS (bl (mk (rwS (bl (mk (rwS (bl (mk (bl h0_0))) h0_1))) (pwB (bl (mk (bl h0_0))) h0_1)))) (pwB (bl (mk (rwS (bl (mk (bl h0_0))) h0_1))) (pwB (bl (mk (bl h0_0))) h0_1))))) (pwB (bl (mk (rwS (bl (mk (rwS (bl (mk (bl h0_0))) h0_1))) (pwB (bl (mk (bl h0_0))) h0_1)))) (pwB (bl (mk (rwS (bl (mk (bl h0_0))) h0_1))) (pwB (bl (mk (bl h0_0))) h0_1))))) true h1_0 h1_1 h1_2 h1_3 h1_4 h1_5 h1_6 h1_7 h1_8 h1_9 h2 h3 (h4 ++ [[L.bool (bl (mk (rwW (bl (mk (bl h0_0))) h0_1)) == bl (mk [97, 108, 108, 111, 119])), L.str (mk (rwW (bl (mk (rwS (bl (mk (bl h0_0))) h0_1))) (pwB (bl (mk (bl h0_0))) h0_1))), L.str (mk (rwW (bl (mk (rwS (bl (mk (rwS (bl (mk (bl h0_0))) h0_1))) (pwB (bl (mk (bl h0_0))) h0_1)))) (pwB (bl (mk (rwS (bl (mk (bl h0_0))) h0_1))) (pwB (bl (mk (bl h0_0))) h0_1)))), L.str (mk (rwW (bl (mk (rwS (bl (mk (rwS (bl (mk (rwS (bl (mk (bl h0_0))) h0_1))) (pwB (bl (mk (bl h0_0))) h0_1)))) (pwB (bl (mk (rwS (bl (mk (bl h0_0))) h0_1))) (pwB (bl (mk (bl h0_0))) h0_1))))) (pwB (bl (mk (rwS (bl (mk (rwS (bl (mk (bl h0_0))) h0_1))) (pwB (bl (mk (bl h0_0))) h0_1)))) (pwB (bl (mk (rwS (bl (mk (bl h0_0))) h0_1))) (pwB (bl (mk (bl h0_0))) h0_1)))))]]) h5))
 none)
 (cond (!bl (mk (rwW (bl (mk (bl h0_0))) h0_1)) == bl (mk [97, 108, 108, 111, 119]))
 (cond (roomN (List.length h4 + 1) 56)
 (G (plists_q1 (mk (rwS (bl (mk (rwS (bl (mk (rwS (bl (mk (rwS (bl (mk (bl h0_0))) h0_1))) (pwB (bl (mk (bl h0_0))) h0_1)))) (pwB (bl (mk (rwS (bl (mk (bl h0_0))) h0_1))) (pwB (bl (mk (bl h0_0))) h0_1))))) (pwB (bl (mk (rwS (bl (mk (rwS (bl (mk (bl h0_0))) h0_1))) (pwB (bl (mk (bl h0_0))) h0_1)))) (pwB (bl (mk (rwS (bl (mk (bl h0_0))) h0_1))) (pwB (bl (mk (bl h0_0))) h0_1))))) (!bl (mk (rwW (bl (mk (bl h0_0))) h0_1)) == bl (mk [100, 101, 110, 121])) h1_0 h1_1 h1_2 h1_3 h1_4 h1_5 h1_6 h1_7 h1_8 h1_9 h2 h3 (h4 ++ [[L.bool (bl (mk (rwW (bl (mk (bl h0_0))) h0_1)) == bl (mk [97, 108, 108, 111, 119])), L.str (mk (rwW (bl (mk (rwS (bl (mk (bl h0_0))) h0_1))) (pwB (bl (mk (bl h0_0))) h0_1))), L.str (mk (rwW (bl (mk (rwS (bl (mk (rwS (bl (mk (bl h0_0))) h0_1))) (pwB (bl (mk (bl h0_0))) h0_1)))) (pwB (bl (mk (rwS (bl (mk (bl h0_0))) h0_1))) (pwB (bl (mk (bl h0_0))) h0_1)))), L.str (mk (rwW (bl (mk (rwS (bl (mk (rwS (bl (mk (rwS (bl (mk (bl h0_0))) h0_1))) (pwB (bl (mk (bl h0_0))) h0_1)))) (pwB (bl (mk (rwS (bl (mk (bl h0_0))) h0_1))) (pwB (bl (mk (bl h0_0))) h0_1))))) (pwB (bl (mk (rwS (bl (mk (rwS (bl (mk (bl h0_0))) h0_1))) (pwB (bl (mk (bl h0_0))) h0_1)))) (pwB (bl (mk (rwS (bl (mk (bl h0_0))) h0_1))) (pwB (bl (mk (bl h0_0))) h0_1)))))]]) h5))
 none)
 (cond (roomN (List.length h4 + 1) 56)
 (G (plists_q1 (mk (rwS (bl (mk (rwS (bl (mk (rwS (bl (mk (rwS (bl (mk (bl h0_0))) h0_1))) (pwB (bl (mk (bl h0_0))) h0_1)))) (pwB (bl (mk (rwS (bl (mk (bl h0_0))) h0_1))) (pwB (bl (mk (bl h0_0))) h0_1))))) (pwB (bl (mk (rwS (bl (mk (rwS (bl (mk (bl h0_0))) h0_1))) (pwB (bl (mk (bl h0_0))) h0_1)))) (pwB (bl (mk (rwS (bl (mk (bl h0_0))) h0_1))) (pwB (bl (mk (bl h0_0))) h0_1))))) false h1_0 h1_1 h1_2 h1_3 h1_4 h1_5 h1_6 h1_7 h1_8 h1_9 h2 h3 (h4 ++ [[L.bool (bl (mk (rwW (bl (mk (bl h0_0))) h0_1)) == bl (mk [97, 108, 108, 111, 119])), L.str (mk (rwW (bl (mk (rwS (bl (mk (bl h0_0))) h0_1))) (pwB (bl (mk (bl h0_0))) h0_1))), L.str (mk (rwW (bl (mk (rwS (bl (mk (rwS (bl (mk (bl h0_0))) h0_1))) (pwB (bl (mk (bl h0_0))) h0_1)))) (pwB (bl (mk (rwS (bl (mk (bl h0_0))) h0_1))) (pwB (bl (mk (bl h0_0))) h0_1)))), L.str (mk (rwW (bl (mk (rwS (bl (mk (rwS (bl (mk (rwS (bl (mk (bl h0_0))) h0_1))) (pwB (bl (mk (bl h0_0))) h0_1)))) (pwB (bl (mk (rwS (bl (mk (bl h0_0))) h0_1))) (pwB (bl (mk (bl h0_0))) h0_1))))) (pwB (bl (mk (rwS (bl (mk (rwS (bl (mk (bl h0_0))) h0_1))) (pwB (bl (mk (bl h0_0))) h0_1)))) (pwB (bl (mk (rwS (bl (mk (bl h0_0))) h0_1))) (pwB (bl (mk (bl h0_0))) h0_1)))))]]) h5))
 none))))
 none)
 none)
 none)
 none)
 (some [(.str (mk (bl h0_0))), (.bool (h0_1)), (.int IntKind.i64 (h1_0)), (.str (h1_1)), (.str (h1_2)), (.str (h1_3)), (.int IntKind.i64 (h1_4)), (.int IntKind.i64 (h1_5)), (.int IntKind.i64 (h1_6)), (.int IntKind.i64 (h1_7)), (.str (h1_8)), (.str (h1_9)), (.lst 3 h2), (.lst 9 h3), (.lst 65 h4), (.lst 51 h5)])) := by kernel_rfl

end Go.Ab
namespace Go.Ab
open Go.Proofs
noncomputable def awrites_q2 (h0_0 : ByteArray) (h0_1 : Bool) (h1 : List (List L)) : Req := .point 71 [(.box [.str, .bool] [.any, .any])] (todoAt Tryz.prog 71 2) ⟨[(.lf (.ptr 0 0)), an, an, (.lf (.row 1)), an, an, an, an, an, an, an, an, an, an, an, an, an, an, an, an, an, an, an, an, an, an, an, an, an, an, an, an], [(.box [.str, .bool] [(.str h0_0), (.bool h0_1)]), (.row 51 h1 true)]⟩
theorem awrites_e (G : Req → R) (a0_0 : ByteArray) (a0_1 : Bool) : runB (cfg [c_aw, c_at, k_amore]) G (.enter 71 [(.lf (.ptr 0 0))] [(.box [.str, .bool] [(.str (a0_0)), (.bool (a0_1))])]) =
 (G (awrites_q2 a0_0 a0_1 [])) := by kernel_rfl
theorem awrites_p2 (G : Req → R) (h0_0 : ByteArray) (h0_1 : Bool) (h1 : List (List L)) : runB (cfg [c_aw, c_at, k_amore]) G (awrites_q2 h0_0 h0_1 h1) =
 (cond (!h0_1 && !List.isEmpty (bl h0_0))
 (cond (sm (List.length (bl (mk (bl h0_0)))))
 (cond (bl (mk (anW (bl (mk (bl h0_0))))) == bl (mk [112, 117, 116]))
 (cond (sm (List.length (bl (mk (anR (bl (mk (bl h0_0))))))))
 (cond (sm (List.length (bl (mk (anR (bl (mk (anR (bl (mk (bl h0_0)))))))))))
 (cond (roomN (List.length h1 + 1) 40)
 (G (awrites_q2 (mk (atS (bl (mk (anR (bl (mk (anR (bl (mk (bl h0_0))))))))))) (awTB (bl (mk (anR (bl (mk (anR (bl (mk (bl h0_0))))))))) (awB (bl (mk (anR (bl (mk (bl h0_0)))))) (awB (bl (mk (bl h0_0))) h0_1))) (h1 ++ [[L.str (mk (anW (bl (mk (anR (bl (mk (bl h0_0)))))))), L.str (mk (atV (bl (mk (anR (bl (mk (anR (bl (mk (bl h0_0))))))))))), L.bool false]])))
 none)
 none)
 none)
 (cond (bl (mk (anW (bl (mk (bl h0_0))))) == bl (mk [100, 101, 108]))
 (cond (sm (List.length (bl (mk (anR (bl (mk (bl h0_0))))))))
 (cond (roomN (List.length h1 + 1) 40)
 (G (awrites_q2 (mk (anR (bl (mk (anR (bl (mk (bl h0_0)))))))) (awB (bl (mk (anR (bl (mk (bl h0_0)))))) (awB (bl (mk (bl h0_0))) h0_1)) (h1 ++ [[L.str (mk (anW (bl (mk (anR (bl (mk (bl h0_0)))))))), L.str (mk []), L.bool true]])))
 none)
 none)
 (G (awrites_q2 (mk (anR (bl (mk (bl h0_0))))) true h1))))
 none)
 (some [(.lst 51 h1), (.str (mk (bl h0_0))), (.bool (h0_1))])) := by kernel_rfl

noncomputable def agroup_q2 (h0_0 : ByteArray) (h0_1 : Bool) (h1_0 : ByteArray) (h2_0 : ByteArray) (h3 : List (List L)) (h4 : List (List L)) (h5 : List (List L)) (h6 : List (List L)) : Req := .point 72 [(.box [.str, .bool] [.any, .any])] (todoAt Tryz.prog 72 2) ⟨[(.lf (.ptr 0 0)), an, (.lf (.ptr 1 0)), (.lf (.ptr 2 0)), an, an, an, an, an, an, an, an, an, an, an, an, an, an, an, an, an, an, an, an, an, an, an, an, an, an, an, an, an, an, an, an, an, an, an, an], [(.box [.str, .bool] [(.str h0_0), (.bool h0_1)]), (.box [.str, (.sl 3), (.sl 9)] [(.str h1_0), (.row 3), (.row 4)]), (.box [.str, (.sl 3), (.sl 9)] [(.str h2_0), (.row 5), (.row 6)]), (.row 3 h3 true), (.row 9 h4 true), (.row 3 h5 true), (.row 9 h6 true)]⟩
theorem agroup_e (G : Req → R) (a0_0 : ByteArray) (a0_1 : Bool) : runB (cfg [c_aw, c_an, k_amore]) G (.enter 72 [(.lf (.ptr 0 0))] [(.box [.str, .bool] [(.str (a0_0)), (.bool (a0_1))])]) =
 (cond (sm (List.length (bl a0_0)))
 (G (agroup_q2 (mk (anR (bl a0_0))) (awB (bl a0_0) a0_1) (mk []) (mk (anW (bl a0_0))) [] [] [] []))
 none) := by kernel_rfl
theorem agroup_p2 (G : Req → R) (h0_0 : ByteArray) (h0_1 : Bool) (h1_0 : ByteArray) (h2_0 : ByteArray) (h3 : List (List L)) (h4 : List (List L)) (h5 : List (List L)) (h6 : List (List L)) : runB (cfg [c_aw, c_an, k_amore]) G (agroup_q2 h0_0 h0_1 h1_0 h2_0 h3 h4 h5 h6) =
 (cond (!h0_1 && !List.isEmpty (bl h0_0))
 (cond (sm (List.length (bl (mk (bl h0_0)))))
 (cond (bl (mk (anW (bl (mk (bl h0_0))))) == bl (mk [117, 115, 101, 114]))
 (cond (ltI 0 (↑(List.length h6) : Int))
 (dupN 1
 (cond (sm (List.length (bl (mk (anR (bl (mk (bl h0_0))))))))
 (cond (roomN (List.length h5 + 1) 8)
 (G (agroup_q2 (mk (anR (bl (mk (anR (bl (mk (bl h0_0)))))))) (awNB (bl (mk (anR (bl (mk (bl h0_0)))))) true) h1_0 h2_0 h3 h4 (h5 ++ [[L.int IntKind.i64 (awN (bl (mk (anR (bl (mk (bl h0_0)))))))]]) h6))
 none)
 none))
 (dupN 1
 (cond (sm (List.length (bl (mk (anR (bl (mk (bl h0_0))))))))
 (cond (roomN (List.length h5 + 1) 8)
 (G (agroup_q2 (mk (anR (bl (mk (anR (bl (mk (bl h0_0)))))))) (awNB (bl (mk (anR (bl (mk (bl h0_0)))))) (awB (bl (mk (bl h0_0))) h0_1)) h1_0 h2_0 h3 h4 (h5 ++ [[L.int IntKind.i64 (awN (bl (mk (anR (bl (mk (bl h0_0)))))))]]) h6))
 none)
 none)))
 (cond (bl (mk (anW (bl (mk (bl h0_0))))) == bl (mk [103, 114, 111, 117, 112]))
 (dupN 1
 (cond (sm (List.length (bl (mk (anR (bl (mk (bl h0_0))))))))
 (cond (roomN (List.length h6 + 1) 16)
 (G (agroup_q2 (mk (anR (bl (mk (anR (bl (mk (bl h0_0)))))))) (awB (bl (mk (anR (bl (mk (bl h0_0)))))) (awB (bl (mk (bl h0_0))) h0_1)) h1_0 h2_0 h3 h4 h5 (h6 ++ [[L.str (mk (anW (bl (mk (anR (bl (mk (bl h0_0))))))))]])))
 none)
 none))
 (G (agroup_q2 (mk (anR (bl (mk (bl h0_0))))) true h1_0 h2_0 h3 h4 h5 h6))))
 none)
 (some [(.str (h2_0)), (.lst 3 h5), (.lst 9 h6), (.str (mk (bl h0_0))), (.bool (h0_1))])) := by kernel_rfl

noncomputable def arules_q2 (h0_0 : ByteArray) (h0_1 : Bool) (h1 : List (List L)) : Req := .point 73 [(.box [.str, .bool] [.any, .any])] (todoAt Tryz.prog 73 2) ⟨[(.lf (.ptr 0 0)), an, an, (.lf (.row 1)), an, an, an, an, an, an, an, an, an, an, an, an, an, an, an, an, an, an, an, an, an, an, an, an, an, an, an, an, an, an, an, an, an], [(.box [.str, .bool] [(.str h0_0), (.bool h0_1)]), (.row 65 h1 true)]⟩
theorem arules_e (G : Req → R) (a0_0 : ByteArray) (a0_1 : Bool) : runB (cfg [c_aw, k_amore]) G (.enter 73 [(.lf (.ptr 0 0))] [(.box [.str, .bool] [(.str (a0_0)), (.bool (a0_1))])]) =
 (G (arules_q2 a0_0 a0_1 [])) := by kernel_rfl
theorem arules_p2 (G : Req → R) (h0_0 : ByteArray) (h0_1 : Bool) (h1 : List (List L)) : runB (cfg [c_aw, k_amore]) G (arules_q2 h0_0 h0_1 h1) =
 (cond (!h0_1 && !List.isEmpty (bl h0_0))
 (cond (sm (List.length (bl (mk (bl h0_0)))))
 (cond (!bl (mk (anW (bl (mk (bl h0_0))))) == bl (mk [97, 108, 108, 111, 119]))
 (cond (!bl (mk (anW (bl (mk (bl h0_0))))) == bl (mk [100, 101, 110, 121]))
 (cond (sm (List.length (bl (mk (anR (bl (mk (bl h0_0))))))))
 (cond (sm (List.length (bl (mk (anR (bl (mk (anR (bl (mk (bl h0_0)))))))))))
 (cond (sm (List.length (bl (mk (anR (bl (mk (anR (bl (mk (anR (bl (mk (bl h0_0))))))))))))))
 (cond (bl (mk (anW (bl (mk (anR (bl (mk (anR (bl (mk (bl h0_0))))))))))) == bl (mk [45]))
 (cond (roomN (List.length h1 + 1) 56)
 (G (arules_q2 (mk (anR (bl (mk (anR (bl (mk (anR (bl (mk (anR (bl (mk (bl h0_0)))))))))))))) (awB (bl (mk (anR (bl (mk (anR (bl (mk (anR (bl (mk (bl h0_0)))))))))))) (awB (bl (mk (anR (bl (mk (anR (bl (mk (bl h0_0))))))))) (awB (bl (mk (anR (bl (mk (bl h0_0)))))) true))) (h1 ++ [[L.bool (bl (mk (anW (bl (mk (bl h0_0))))) == bl (mk [97, 108, 108, 111, 119])), L.str (mk (anW (bl (mk (anR (bl (mk (bl h0_0)))))))), L.str (mk []), L.str (mk (anW (bl (mk (anR (bl (mk (anR (bl (mk (anR (bl (mk (bl h0_0))))))))))))))]])))
 none)
 (cond (roomN (List.length h1 + 1) 56)
 (G (arules_q2 (mk (anR (bl (mk (anR (bl (mk (anR (bl (mk (anR (bl (mk (bl h0_0)))))))))))))) (awB (bl (mk (anR (bl (mk (anR (bl (mk (anR (bl (mk (bl h0_0)))))))))))) (awB (bl (mk (anR (bl (mk (anR (bl (mk (bl h0_0))))))))) (awB (bl (mk (anR (bl (mk (bl h0_0)))))) true))) (h1 ++ [[L.bool (bl (mk (anW (bl (mk (bl h0_0))))) == bl (mk [97, 108, 108, 111, 119])), L.str (mk (anW (bl (mk (anR (bl (mk (bl h0_0)))))))), L.str (mk (anW (bl (mk (anR (bl (mk (anR (bl (mk (bl h0_0))))))))))), L.str (mk (anW (bl (mk (anR (bl (mk (anR (bl (mk (anR (bl (mk (bl h0_0))))))))))))))]])))
 none))
 none)
 none)
 none)
 (cond (sm (List.length (bl (mk (anR (bl (mk (bl h0_0))))))))
 (cond (sm (List.length (bl (mk (anR (bl (mk (anR (bl (mk (bl h0_0)))))))))))
 (cond (sm (List.length (bl (mk (anR (bl (mk (anR (bl (mk (anR (bl (mk (bl h0_0))))))))))))))
 (cond (bl (mk (anW (bl (mk (anR (bl (mk (anR (bl (mk (bl h0_0))))))))))) == bl (mk [45]))
 (cond (roomN (List.length h1 + 1) 56)
 (G (arules_q2 (mk (anR (bl (mk (anR (bl (mk (anR (bl (mk (anR (bl (mk (bl h0_0)))))))))))))) (awB (bl (mk (anR (bl (mk (anR (bl (mk (anR (bl (mk (bl h0_0)))))))))))) (awB (bl (mk (anR (bl (mk (anR (bl (mk (bl h0_0))))))))) (awB (bl (mk (anR (bl (mk (bl h0_0)))))) (awB (bl (mk (bl h0_0))) h0_1)))) (h1 ++ [[L.bool (bl (mk (anW (bl (mk (bl h0_0))))) == bl (mk [97, 108, 108, 111, 119])), L.str (mk (anW (bl (mk (anR (bl (mk (bl h0_0)))))))), L.str (mk []), L.str (mk (anW (bl (mk (anR (bl (mk (anR (bl (mk (anR (bl (mk (bl h0_0))))))))))))))]])))
 none)
 (cond (roomN (List.length h1 + 1) 56)
 (G (arules_q2 (mk (anR (bl (mk (anR (bl (mk (anR (bl (mk (anR (bl (mk (bl h0_0)))))))))))))) (awB (bl (mk (anR (bl (mk (anR (bl (mk (anR (bl (mk (bl h0_0)))))))))))) (awB (bl (mk (anR (bl (mk (anR (bl (mk (bl h0_0))))))))) (awB (bl (mk (anR (bl (mk (bl h0_0)))))) (awB (bl (mk (bl h0_0))) h0_1)))) (h1 ++ [[L.bool (bl (mk (anW (bl (mk (bl h0_0))))) == bl (mk [97, 108, 108, 111, 119])), L.str (mk (anW (bl (mk (anR (bl (mk (bl h0_0)))))))), L.str (mk (anW (bl (mk (anR (bl (mk (anR (bl (mk (bl h0_0))))))))))), L.str (mk (anW (bl (mk (anR (bl (mk (anR (bl (mk (anR (bl (mk (bl h0_0))))))))))))))]])))
 none))
 none)
 none)
 none))
 (cond (sm (List.length (bl (mk (anR (bl (mk (bl h0_0))))))))
 (cond (sm (List.length (bl (mk (anR (bl (mk (anR (bl (mk (bl h0_0)))))))))))
 (cond (sm (List.length (bl (mk (anR (bl (mk (anR (bl (mk (anR (bl (mk (bl h0_0))))))))))))))
 (cond (bl (mk (anW (bl (mk (anR (bl (mk (anR (bl (mk (bl h0_0))))))))))) == bl (mk [45]))
 (cond (roomN (List.length h1 + 1) 56)
 (G (arules_q2 (mk (anR (bl (mk (anR (bl (mk (anR (bl (mk (anR (bl (mk (bl h0_0)))))))))))))) (awB (bl (mk (anR (bl (mk (anR (bl (mk (anR (bl (mk (bl h0_0)))))))))))) (awB (bl (mk (anR (bl (mk (anR (bl (mk (bl h0_0))))))))) (awB (bl (mk (anR (bl (mk (bl h0_0)))))) (awB (bl (mk (bl h0_0))) h0_1)))) (h1 ++ [[L.bool (bl (mk (anW (bl (mk (bl h0_0))))) == bl (mk [97, 108, 108, 111, 119])), L.str (mk (anW (bl (mk (anR (bl (mk (bl h0_0)))))))), L.str (mk []), L.str (mk (anW (bl (mk (anR (bl (mk (anR (bl (mk (anR (bl (mk (bl h0_0))))))))))))))]])))
 none)
 (cond (roomN (List.length h1 + 1) 56)
 (G (arules_q2 (mk (anR (bl (mk (anR (bl (mk (anR (bl (mk (anR (bl (mk (bl h0_0)))))))))))))) (awB (bl (mk (anR (bl (mk (anR (bl (mk (anR (bl (mk (bl h0_0)))))))))))) (awB (bl (mk (anR (bl (mk (anR (bl (mk (bl h0_0))))))))) (awB (bl (mk (anR (bl (mk (bl h0_0)))))) (awB (bl (mk (bl h0_0))) h0_1)))) (h1 ++ [[L.bool (bl (mk (anW (bl (mk (bl h0_0))))) == bl (mk [97, 108, 108, 111, 119])), L.str (mk (anW (bl (mk (anR (bl (mk (bl h0_0)))))))), L.str (mk (anW (bl (mk (anR (bl (mk (anR (bl (mk (bl h0_0))))))))))), L.str (mk (anW (bl (mk (anR (bl (mk (anR (bl (mk (anR (bl (mk (bl h0_0))))))))))))))]])))
 none))
 none)
 none)
 none))
 none)
 (some [(.lst 65 h1), (.str (mk (bl h0_0))), (.bool (h0_1))])) := by kernel_rfl

noncomputable def command_q3 (w0 : ByteArray) (i4 : Int) (h0 : List (List L)) : Req := .point 45 [] (todoAt Tryz.prog 45 3) ⟨[(.lf (.str w0)), an, an, (.lf (.row 0)), (.lf (.int IntKind.i64 i4)), an, an, an, an, an, an, an, an, an, an, an, an, an, an, an], [(.row 9 h0 true)]⟩
theorem command_e (G : Req → R) (w0 : ByteArray) : runB (cfg []) G (.enter 45 [(.lf (.str (w0)))] []) =
 (G (command_q3 w0 0 ([[L.str (mk [99, 111, 109, 109, 105, 116])], [L.str (mk [98, 114, 97, 110, 99, 104])], [L.str (mk [100, 114, 111, 112])], [L.str (mk [102, 111, 114, 119, 97, 114, 100])], [L.str (mk [105, 110, 103, 101, 115, 116])], [L.str (mk [109, 101, 114, 103, 101])], [L.str (mk [103, 114, 111, 117, 112])], [L.str (mk [114, 117, 108, 101, 115])], [L.str (mk [115, 101, 97, 114, 99, 104])], [L.str (mk [115, 97, 118, 101])], [L.str (mk [102, 111, 114, 103, 101, 116])], [L.str (mk [110, 111, 116, 105, 102, 121])], [L.str (mk [100, 101, 108, 105, 118, 101, 114])], [L.str (mk [116, 105, 99, 107])], [L.str (mk [114, 101, 110, 101, 119])], [L.str (mk [115, 121, 110, 99])], [L.str (mk [99, 114, 97, 115, 104])], [L.str (mk [115, 116, 97, 114, 116])], [L.str (mk [115, 108, 111, 119])], [L.str (mk [112, 114, 117, 110, 101])], [L.str (mk [114, 101, 119, 114, 105, 116, 101])], [L.str (mk [114, 101, 112, 111])]]))) := by kernel_rfl
theorem command_p3 (G : Req → R) (w0 : ByteArray) (i4 : Int) (h0 : List (List L)) : runB (cfg []) G (command_q3 w0 i4 h0) =
 (cond (ltI i4 (↑(List.length h0) : Int))
 (cond (leI 0 i4 && ltI i4 (↑(List.length h0) : Int))
 (cond (bl (cT 0 (atL h0 i4)) == bl w0)
 (some [(.int IntKind.i64 (wrapI IntKind.i64 (i4 + 1)))])
 (G (command_q3 w0 (wrapI IntKind.i64 (i4 + 1)) h0)))
 none)
 (some [(.int IntKind.i64 (0))])) := by kernel_rfl

noncomputable def aread_q2 (s0 : ByteArray) (n4 : Int) (h0_0 : Int) (h0_1 : ByteArray) (h0_2 : ByteArray) (h0_3 : ByteArray) (h0_4 : Int) (h0_5 : Int) (h0_6 : Int) (h0_7 : Int) (h0_8 : ByteArray) (h0_9 : ByteArray) (h1 : List (List L)) (h2 : List (List L)) (h3 : List (List L)) (h4 : List (List L)) : Req := .point 21 [] (todoAt Tryz.prog 21 2) ⟨[(.lf (.str s0)), an, (.lf (.ptr 0 0)), an, (.lf (.int IntKind.i64 n4)), an, an, an, an, an, an, an, an, an, an, an, an, an, an, an, an, an, an, an, an, an, an, an, an, an, an, an, an, an, an, an, an, an, an, an, an, an, an, an, an, an, an, an], [(.box [(.int IntKind.i64), .str, .str, .str, (.int IntKind.i64), (.int IntKind.i64), (.int IntKind.i64), (.int IntKind.i64), .str, .str, (.sl 3), (.sl 9), (.sl 65), (.sl 51)] [(.int IntKind.i64 h0_0), (.str h0_1), (.str h0_2), (.str h0_3), (.int IntKind.i64 h0_4), (.int IntKind.i64 h0_5), (.int IntKind.i64 h0_6), (.int IntKind.i64 h0_7), (.str h0_8), (.str h0_9), (.row 1), (.row 2), (.row 3), (.row 4)]), (.row 3 h1 true), (.row 9 h2 true), (.row 65 h3 true), (.row 51 h4 true)]⟩
theorem aread_e (G : Req → R) (s0 : ByteArray) : runB (cfg [k_command, k_aevent]) G (.enter 21 [(.lf (.str (s0)))] []) =
 (G (aread_q2 s0 0 0 (mk []) (mk []) (mk []) 0 0 0 0 (mk []) (mk []) [] [] [] [])) := by kernel_rfl
theorem aread_p2 (G : Req → R) (s0 : ByteArray) (n4 : Int) (h0_0 : Int) (h0_1 : ByteArray) (h0_2 : ByteArray) (h0_3 : ByteArray) (h0_4 : Int) (h0_5 : Int) (h0_6 : Int) (h0_7 : Int) (h0_8 : ByteArray) (h0_9 : ByteArray) (h1 : List (List L)) (h2 : List (List L)) (h3 : List (List L)) (h4 : List (List L)) : runB (cfg [k_command, k_aevent]) G (aread_q2 s0 n4 h0_0 h0_1 h0_2 h0_3 h0_4 h0_5 h0_6 h0_7 h0_8 h0_9 h1 h2 h3 h4) =
 (cond (ltI n4 (↑(ByteArray.size s0) : Int))
 (cond (leI 0 n4 && ltI n4 (↑(ByteArray.size s0) : Int))
 (cond (byI s0 n4 != 32)
 (G (aread_q2 s0 (wrapI IntKind.i64 (n4 + 1)) h0_0 h0_1 h0_2 h0_3 h0_4 h0_5 h0_6 h0_7 h0_8 h0_9 h1 h2 h3 h4))
 (cond (leI 0 n4 && leI n4 (↑(ByteArray.size s0) : Int))
 (cond (sm (ByteArray.size (ByteArray.extract s0 0 (Int.toNat n4))))
 (cond (ct (bl (ByteArray.extract s0 0 (Int.toNat n4))) == 0)
 (some [(.int IntKind.i64 (0)), (.str (mk [])), (.str (mk [])), (.str (mk [])), (.int IntKind.i64 (0)), (.int IntKind.i64 (0)), (.int IntKind.i64 (0)), (.int IntKind.i64 (0)), (.str (mk [])), (.str (mk [])), (.lst 3 []), (.lst 9 []), (.lst 65 []), (.lst 51 []), (.int IntKind.i64 (19))])
 (cond (leI 0 n4 && leI n4 (↑(ByteArray.size s0) : Int))
 (cond (sm (ByteArray.size (ByteArray.extract s0 (Int.toNat n4) (ByteArray.size s0))) && (leI 1 (ct (bl (ByteArray.extract s0 0 (Int.toNat n4)))) && leI (ct (bl (ByteArray.extract s0 0 (Int.toNat n4)))) 22))
 (cond (Prod.snd (Prod.snd (evG aOps (ct (bl (ByteArray.extract s0 0 (Int.toNat n4)))) (bl (ByteArray.extract s0 (Int.toNat n4) (ByteArray.size s0)), false))))
 (some [(.int IntKind.i64 (0)), (.str (mk [])), (.str (mk [])), (.str (mk [])), (.int IntKind.i64 (0)), (.int IntKind.i64 (0)), (.int IntKind.i64 (0)), (.int IntKind.i64 (0)), (.str (mk [])), (.str (mk [])), (.lst 3 []), (.lst 9 []), (.lst 65 []), (.lst 51 []), (.int IntKind.i64 (3))])
 (cond (!bl (mk (Prod.fst (Prod.snd (evG aOps (ct (bl (ByteArray.extract s0 0 (Int.toNat n4)))) (bl (ByteArray.extract s0 (Int.toNat n4) (ByteArray.size s0)), false))))) == bl (mk []))
 (some [(.int IntKind.i64 (0)), (.str (mk [])), (.str (mk [])), (.str (mk [])), (.int IntKind.i64 (0)), (.int IntKind.i64 (0)), (.int IntKind.i64 (0)), (.int IntKind.i64 (0)), (.str (mk [])), (.str (mk [])), (.lst 3 []), (.lst 9 []), (.lst 65 []), (.lst 51 []), (.int IntKind.i64 (3))])
 (some [(.int IntKind.i64 (Ev.kind (Prod.fst (evG aOps (ct (bl (ByteArray.extract s0 0 (Int.toNat n4)))) (bl (ByteArray.extract s0 (Int.toNat n4) (ByteArray.size s0)), false))))), (.str (mk (Ev.repo (Prod.fst (evG aOps (ct (bl (ByteArray.extract s0 0 (Int.toNat n4)))) (bl (ByteArray.extract s0 (Int.toNat n4) (ByteArray.size s0)), false)))))), (.str (mk (Ev.name (Prod.fst (evG aOps (ct (bl (ByteArray.extract s0 0 (Int.toNat n4)))) (bl (ByteArray.extract s0 (Int.toNat n4) (ByteArray.size s0)), false)))))), (.str (mk (Ev.other (Prod.fst (evG aOps (ct (bl (ByteArray.extract s0 0 (Int.toNat n4)))) (bl (ByteArray.extract s0 (Int.toNat n4) (ByteArray.size s0)), false)))))), (.int IntKind.i64 (Ev.who (Prod.fst (evG aOps (ct (bl (ByteArray.extract s0 0 (Int.toNat n4)))) (bl (ByteArray.extract s0 (Int.toNat n4) (ByteArray.size s0)), false))))), (.int IntKind.i64 (Ev.n (Prod.fst (evG aOps (ct (bl (ByteArray.extract s0 0 (Int.toNat n4)))) (bl (ByteArray.extract s0 (Int.toNat n4) (ByteArray.size s0)), false))))), (.int IntKind.i64 (Ev.m (Prod.fst (evG aOps (ct (bl (ByteArray.extract s0 0 (Int.toNat n4)))) (bl (ByteArray.extract s0 (Int.toNat n4) (ByteArray.size s0)), false))))), (.int IntKind.i64 (Ev.k (Prod.fst (evG aOps (ct (bl (ByteArray.extract s0 0 (Int.toNat n4)))) (bl (ByteArray.extract s0 (Int.toNat n4) (ByteArray.size s0)), false))))), (.str (mk (Ev.text (Prod.fst (evG aOps (ct (bl (ByteArray.extract s0 0 (Int.toNat n4)))) (bl (ByteArray.extract s0 (Int.toNat n4) (ByteArray.size s0)), false)))))), (.str (mk (Ev.gname (Prod.fst (evG aOps (ct (bl (ByteArray.extract s0 0 (Int.toNat n4)))) (bl (ByteArray.extract s0 (Int.toNat n4) (ByteArray.size s0)), false)))))), (.lst 3 (eIs (Ev.users (Prod.fst (evG aOps (ct (bl (ByteArray.extract s0 0 (Int.toNat n4)))) (bl (ByteArray.extract s0 (Int.toNat n4) (ByteArray.size s0)), false)))))), (.lst 9 (eSs (Ev.groups (Prod.fst (evG aOps (ct (bl (ByteArray.extract s0 0 (Int.toNat n4)))) (bl (ByteArray.extract s0 (Int.toNat n4) (ByteArray.size s0)), false)))))), (.lst 65 (eRs (Ev.rules (Prod.fst (evG aOps (ct (bl (ByteArray.extract s0 0 (Int.toNat n4)))) (bl (ByteArray.extract s0 (Int.toNat n4) (ByteArray.size s0)), false)))))), (.lst 51 (eWs (Ev.writes (Prod.fst (evG aOps (ct (bl (ByteArray.extract s0 0 (Int.toNat n4)))) (bl (ByteArray.extract s0 (Int.toNat n4) (ByteArray.size s0)), false)))))), (.int IntKind.i64 (0))])))
 none)
 none))
 none)
 none))
 none)
 (cond (leI 0 n4 && leI n4 (↑(ByteArray.size s0) : Int))
 (cond (sm (ByteArray.size (ByteArray.extract s0 0 (Int.toNat n4))))
 (cond (ct (bl (ByteArray.extract s0 0 (Int.toNat n4))) == 0)
 (some [(.int IntKind.i64 (0)), (.str (mk [])), (.str (mk [])), (.str (mk [])), (.int IntKind.i64 (0)), (.int IntKind.i64 (0)), (.int IntKind.i64 (0)), (.int IntKind.i64 (0)), (.str (mk [])), (.str (mk [])), (.lst 3 []), (.lst 9 []), (.lst 65 []), (.lst 51 []), (.int IntKind.i64 (19))])
 (cond (leI 0 n4 && leI n4 (↑(ByteArray.size s0) : Int))
 (cond (sm (ByteArray.size (ByteArray.extract s0 (Int.toNat n4) (ByteArray.size s0))) && (leI 1 (ct (bl (ByteArray.extract s0 0 (Int.toNat n4)))) && leI (ct (bl (ByteArray.extract s0 0 (Int.toNat n4)))) 22))
 (cond (Prod.snd (Prod.snd (evG aOps (ct (bl (ByteArray.extract s0 0 (Int.toNat n4)))) (bl (ByteArray.extract s0 (Int.toNat n4) (ByteArray.size s0)), false))))
 (some [(.int IntKind.i64 (0)), (.str (mk [])), (.str (mk [])), (.str (mk [])), (.int IntKind.i64 (0)), (.int IntKind.i64 (0)), (.int IntKind.i64 (0)), (.int IntKind.i64 (0)), (.str (mk [])), (.str (mk [])), (.lst 3 []), (.lst 9 []), (.lst 65 []), (.lst 51 []), (.int IntKind.i64 (3))])
 (cond (!bl (mk (Prod.fst (Prod.snd (evG aOps (ct (bl (ByteArray.extract s0 0 (Int.toNat n4)))) (bl (ByteArray.extract s0 (Int.toNat n4) (ByteArray.size s0)), false))))) == bl (mk []))
 (some [(.int IntKind.i64 (0)), (.str (mk [])), (.str (mk [])), (.str (mk [])), (.int IntKind.i64 (0)), (.int IntKind.i64 (0)), (.int IntKind.i64 (0)), (.int IntKind.i64 (0)), (.str (mk [])), (.str (mk [])), (.lst 3 []), (.lst 9 []), (.lst 65 []), (.lst 51 []), (.int IntKind.i64 (3))])
 (some [(.int IntKind.i64 (Ev.kind (Prod.fst (evG aOps (ct (bl (ByteArray.extract s0 0 (Int.toNat n4)))) (bl (ByteArray.extract s0 (Int.toNat n4) (ByteArray.size s0)), false))))), (.str (mk (Ev.repo (Prod.fst (evG aOps (ct (bl (ByteArray.extract s0 0 (Int.toNat n4)))) (bl (ByteArray.extract s0 (Int.toNat n4) (ByteArray.size s0)), false)))))), (.str (mk (Ev.name (Prod.fst (evG aOps (ct (bl (ByteArray.extract s0 0 (Int.toNat n4)))) (bl (ByteArray.extract s0 (Int.toNat n4) (ByteArray.size s0)), false)))))), (.str (mk (Ev.other (Prod.fst (evG aOps (ct (bl (ByteArray.extract s0 0 (Int.toNat n4)))) (bl (ByteArray.extract s0 (Int.toNat n4) (ByteArray.size s0)), false)))))), (.int IntKind.i64 (Ev.who (Prod.fst (evG aOps (ct (bl (ByteArray.extract s0 0 (Int.toNat n4)))) (bl (ByteArray.extract s0 (Int.toNat n4) (ByteArray.size s0)), false))))), (.int IntKind.i64 (Ev.n (Prod.fst (evG aOps (ct (bl (ByteArray.extract s0 0 (Int.toNat n4)))) (bl (ByteArray.extract s0 (Int.toNat n4) (ByteArray.size s0)), false))))), (.int IntKind.i64 (Ev.m (Prod.fst (evG aOps (ct (bl (ByteArray.extract s0 0 (Int.toNat n4)))) (bl (ByteArray.extract s0 (Int.toNat n4) (ByteArray.size s0)), false))))), (.int IntKind.i64 (Ev.k (Prod.fst (evG aOps (ct (bl (ByteArray.extract s0 0 (Int.toNat n4)))) (bl (ByteArray.extract s0 (Int.toNat n4) (ByteArray.size s0)), false))))), (.str (mk (Ev.text (Prod.fst (evG aOps (ct (bl (ByteArray.extract s0 0 (Int.toNat n4)))) (bl (ByteArray.extract s0 (Int.toNat n4) (ByteArray.size s0)), false)))))), (.str (mk (Ev.gname (Prod.fst (evG aOps (ct (bl (ByteArray.extract s0 0 (Int.toNat n4)))) (bl (ByteArray.extract s0 (Int.toNat n4) (ByteArray.size s0)), false)))))), (.lst 3 (eIs (Ev.users (Prod.fst (evG aOps (ct (bl (ByteArray.extract s0 0 (Int.toNat n4)))) (bl (ByteArray.extract s0 (Int.toNat n4) (ByteArray.size s0)), false)))))), (.lst 9 (eSs (Ev.groups (Prod.fst (evG aOps (ct (bl (ByteArray.extract s0 0 (Int.toNat n4)))) (bl (ByteArray.extract s0 (Int.toNat n4) (ByteArray.size s0)), false)))))), (.lst 65 (eRs (Ev.rules (Prod.fst (evG aOps (ct (bl (ByteArray.extract s0 0 (Int.toNat n4)))) (bl (ByteArray.extract s0 (Int.toNat n4) (ByteArray.size s0)), false)))))), (.lst 51 (eWs (Ev.writes (Prod.fst (evG aOps (ct (bl (ByteArray.extract s0 0 (Int.toNat n4)))) (bl (ByteArray.extract s0 (Int.toNat n4) (ByteArray.size s0)), false)))))), (.int IntKind.i64 (0))])))
 none)
 none))
 none)
 none)) := by kernel_rfl

end Go.Ab
namespace Go.Ab
open Go.Proofs
theorem wstr_e (G : Req → R) (s : ByteArray) (xs : List (List L)) : runB (cfg [k_cc]) G (.enter 26 [(.lf (.ptr 0 0)), (.lf (.str (s)))] [(.box [.oth, (.sl 5)] [(.slf (0) (0)), (.row (1))]), (.row 5 xs true)]) =
 (cond (roomN (List.length xs + List.length (bytesOf s)) 1)
 (some [(.int IntKind.i64 ((↑(ByteArray.size s) : Int))), .any, .any, (.lst 5 (xs ++ bytesOf s))])
 none) := by kernel_rfl

theorem wbyte_e (G : Req → R) (c : Int) (xs : List (List L)) : runB (cfg [k_cc]) G (.enter 68 [(.lf (.ptr 0 0)), (.lf (.int IntKind.u8 (c)))] [(.box [.oth, (.sl 5)] [(.slf (0) (0)), (.row (1))]), (.row 5 xs true)]) =
 (cond (roomN (List.length xs + 1) 1)
 (some [.any, .any, (.lst 5 (xs ++ [[L.int IntKind.u8 c]]))])
 none) := by kernel_rfl

theorem blen_e (G : Req → R) (xs : List (List L)) : runB (cfg []) G (.enter 66 [(.lf (.ptr 0 0))] [(.box [.oth, (.sl 5)] [(.slf (0) (0)), (.row (1))]), (.row 5 xs true)]) =
 (some [(.int IntKind.i64 ((↑(List.length xs) : Int))), .any, (.lst 5 xs)]) := by kernel_rfl

theorem ixb_e (G : Req → R) (s0 : ByteArray) (c1 : Int) : runB (cfg [k_IndexByte2]) G (.enter 67 [(.lf (.str (s0))), (.lf (.int IntKind.u8 (c1)))] []) =
 (cond (bl s0 == [34, 92, 110, 116] && (leI 0 c1 && leI c1 255))
 (some [(.int IntKind.i64 (kx c1))])
 none) := by kernel_rfl

noncomputable def ptext_q6 (i4 : Int) (h0_0 : ByteArray) (h0_1 : Bool) (h2 : List (List L)) : Req := .point 41 [(.box [.str, .bool] [.any, .any])] (todoAt Tryz.prog 41 6) ⟨[(.lf (.ptr 0 0)), an, an, (.lf (.ptr 1 0)), (.lf (.int IntKind.i64 i4)), an, an, an, an, an, an, an, an, an, an, an, an, an, an, an, an, an, an, an, an, an, an, an, an, an, an, an, an, an, an, an, an, an, an, an, an, an, an, an, an, an, an, an, an, an, an, an, an, an, an, an, an, an, an, an, an, an, an, an, an, an, an, an, an, an, an, an, an, an, an, an, an, an, an, an, an, an, an, an, an, an, an, an, an, an, an, an, an, an, an, an, an, an, an, an, an, an, an, an, an, an, an, an, an, an, an, an], [(.box [.str, .bool] [(.str h0_0), (.bool h0_1)]), (.box [.oth, (.sl 5)] [(.slf 1 0), (.row 2)]), (.row 5 h2 true)]⟩
theorem ptext_e (G : Req → R) (r0_0 : ByteArray) (r0_1 : Bool) : runB (cfg [k_pnext, k_len, k_bs, k_wb, k_IndexByte]) G (.enter 41 [(.lf (.ptr 0 0))] [(.box [.str, .bool] [(.str (r0_0)), (.bool (r0_1))])]) =
 (cond (!nxO (bl r0_0) r0_1)
 (some [(.str (mk [])), (.str (mk (nxS (bl r0_0) r0_1))), (.bool (true))])
 (cond (bl (mk (nxS (bl r0_0) r0_1)) == bl (mk []))
 (some [(.str (mk [])), (.str (mk (nxS (bl r0_0) r0_1))), (.bool (true))])
 (cond (ltI 0 (↑(ByteArray.size (mk (nxS (bl r0_0) r0_1))) : Int))
 (cond (byI (mk (nxS (bl r0_0) r0_1)) 0 != 34)
 (some [(.str (mk [])), (.str (mk (nxS (bl r0_0) r0_1))), (.bool (true))])
 (G (ptext_q6 1 (mk (nxS (bl r0_0) r0_1)) (!nxO (bl r0_0) r0_1) [])))
 none))) := by kernel_rfl
theorem ptext_p6 (G : Req → R) (i4 : Int) (h0_0 : ByteArray) (h0_1 : Bool) (h2 : List (List L)) : runB (cfg [k_pnext, k_len, k_bs, k_wb, k_IndexByte]) G (ptext_q6 i4 h0_0 h0_1 h2) =
 (cond (ltI i4 (↑(ByteArray.size h0_0) : Int))
 (cond (leI 0 i4 && ltI i4 (↑(ByteArray.size h0_0) : Int))
 (cond (byI h0_0 i4 == 34)
 (cond (leI 0 (wrapI IntKind.i64 (i4 + 1)) && leI (wrapI IntKind.i64 (i4 + 1)) (↑(ByteArray.size h0_0) : Int))
 (cond (h0_1)
 (cond (isBy h2 && Nat.ble (List.length h2) 100000000000)
 (some [(.str (mk (dB h2))), (.str (ByteArray.extract h0_0 (Int.toNat (wrapI IntKind.i64 (i4 + 1))) (ByteArray.size h0_0))), (.bool (true))])
 none)
 (cond (Nat.ble (List.length h2) 100000000000)
 (cond (isBy h2 && Nat.ble (List.length h2) 100000000000)
 (some [(.str (mk (dB h2))), (.str (ByteArray.extract h0_0 (Int.toNat (wrapI IntKind.i64 (i4 + 1))) (ByteArray.size h0_0))), (.bool (ltI 2000 (↑(List.length h2) : Int)))])
 none)
 none))
 none)
 (cond (ltI (byI h0_0 i4) 32)
 (some [(.str (mk [])), (.str (h0_0)), (.bool (true))])
 (cond (ltI 126 (byI h0_0 i4))
 (some [(.str (mk [])), (.str (h0_0)), (.bool (true))])
 (cond (byI h0_0 i4 == 92)
 (cond (wrapI IntKind.i64 (i4 + 1) == (↑(ByteArray.size h0_0) : Int))
 (some [(.str (mk [])), (.str (h0_0)), (.bool (true))])
 (cond (leI 0 (wrapI IntKind.i64 (i4 + 1)) && ltI (wrapI IntKind.i64 (i4 + 1)) (↑(ByteArray.size h0_0) : Int))
 (cond (leI 0 (byI h0_0 (wrapI IntKind.i64 (i4 + 1))) && leI (byI h0_0 (wrapI IntKind.i64 (i4 + 1))) 255)
 (cond (ltI (kx (byI h0_0 (wrapI IntKind.i64 (i4 + 1)))) 0)
 (some [(.str (mk [])), (.str (h0_0)), (.bool (true))])
 (cond (leI 0 (kx (byI h0_0 (wrapI IntKind.i64 (i4 + 1)))) && ltI (kx (byI h0_0 (wrapI IntKind.i64 (i4 + 1)))) (↑4 : Int))
 (cond (isBy h2 && Nat.ble (List.length h2) 100000000000)
 (G (ptext_q6 (wrapI IntKind.i64 (wrapI IntKind.i64 (i4 + 1) + 1)) h0_0 h0_1 (h2 ++ [[L.int IntKind.u8 (byI (mk [34, 92, 10, 9]) (kx (byI h0_0 (wrapI IntKind.i64 (i4 + 1)))))]])))
 none)
 none))
 none)
 none))
 (cond (isBy h2 && Nat.ble (List.length h2) 100000000000)
 (G (ptext_q6 (wrapI IntKind.i64 (i4 + 1)) h0_0 h0_1 (h2 ++ [[L.int IntKind.u8 (byI h0_0 i4)]])))
 none)))))
 none)
 (some [(.str (mk [])), (.str (h0_0)), (.bool (true))])) := by kernel_rfl

noncomputable def atext_q7 (i4 : Int) (h0_0 : ByteArray) (h0_1 : Bool) (h1 : List (List L)) : Req := .point 74 [(.box [.str, .bool] [.any, .any])] (todoAt Tryz.prog 74 7) ⟨[(.lf (.ptr 0 0)), an, an, (.lf (.row 1)), (.lf (.int IntKind.i64 i4)), an, an, an, an, an, an, an, an, an, an, an, an, an, an, an, an, an, an, an, an, an, an, an, an, an, an, an, an, an, an, an, an, an, an, an, an, an, an, an, an, an, an, an, an, an, an, an, an, an, an, an, an, an, an, an, an, an, an, an, an, an, an, an, an, an, an, an, an, an, an, an, an, an, an, an, an, an, an, an, an, an, an, an, an, an, an, an, an, an, an, an, an, an, an, an, an, an, an, an, an, an, an, an, an, an, an, an, an, an, an, an, an, an, an, an, an], [(.box [.str, .bool] [(.str h0_0), (.bool h0_1)]), (.row 5 h1 true)]⟩
theorem atext_e (G : Req → R) (a0_0 : ByteArray) (a0_1 : Bool) : runB (cfg [k_anext]) G (.enter 74 [(.lf (.ptr 0 0))] [(.box [.str, .bool] [(.str (a0_0)), (.bool (a0_1))])]) =
 (cond (bl (mk (anS (bl a0_0))) == bl (mk []))
 (some [(.str (mk [])), (.str (mk (anS (bl a0_0)))), (.bool (true))])
 (cond (ltI 0 (↑(ByteArray.size (mk (anS (bl a0_0)))) : Int))
 (cond (byI (mk (anS (bl a0_0))) 0 != 34)
 (some [(.str (mk [])), (.str (mk (anS (bl a0_0)))), (.bool (true))])
 (G (atext_q7 1 (mk (anS (bl a0_0))) (anB (bl a0_0) a0_1) [])))
 none)) := by kernel_rfl
theorem atext_p7 (G : Req → R) (i4 : Int) (h0_0 : ByteArray) (h0_1 : Bool) (h1 : List (List L)) : runB (cfg [k_anext]) G (atext_q7 i4 h0_0 h0_1 h1) =
 (cond (ltI i4 (↑(ByteArray.size h0_0) : Int))
 (cond (leI 0 i4 && ltI i4 (↑(ByteArray.size h0_0) : Int))
 (cond (byI h0_0 i4 != 34)
 (cond (leI 0 i4 && ltI i4 (↑(ByteArray.size h0_0) : Int))
 (cond (ltI (byI h0_0 i4) 32)
 (some [(.str (mk [])), (.str (h0_0)), (.bool (true))])
 (cond (ltI 126 (byI h0_0 i4))
 (some [(.str (mk [])), (.str (h0_0)), (.bool (true))])
 (cond (byI h0_0 i4 == 92)
 (cond (wrapI IntKind.i64 (i4 + 1) == (↑(ByteArray.size h0_0) : Int))
 (cond (leI (↑(ByteArray.size h0_0) : Int) (wrapI IntKind.i64 (i4 + 1)))
 (some [(.str (mk [])), (.str (h0_0)), (.bool (true))])
 (cond (ltI 2000 (↑(List.length h1) : Int))
 (some [(.str (mk [])), (.str (h0_0)), (.bool (true))])
 (cond (leI 0 (wrapI IntKind.i64 (wrapI IntKind.i64 (i4 + 1) + 1)) && leI (wrapI IntKind.i64 (wrapI IntKind.i64 (i4 + 1) + 1)) (↑(ByteArray.size h0_0) : Int))
 (some [(.str (ByteArray.mk (List.toArray (List.map (fun c => UInt8.ofNat (Int.toNat (cI 0 c))) h1)))), (.str (ByteArray.extract h0_0 (Int.toNat (wrapI IntKind.i64 (wrapI IntKind.i64 (i4 + 1) + 1))) (ByteArray.size h0_0))), (.bool (h0_1))])
 none)))
 (cond (leI 0 (wrapI IntKind.i64 (i4 + 1)) && ltI (wrapI IntKind.i64 (i4 + 1)) (↑(ByteArray.size h0_0) : Int))
 (cond (byI h0_0 (wrapI IntKind.i64 (i4 + 1)) == 110)
 (cond (roomN (List.length h1 + 1) 1)
 (G (atext_q7 (wrapI IntKind.i64 (wrapI IntKind.i64 (i4 + 1) + 1)) h0_0 h0_1 (h1 ++ [[L.int IntKind.u8 10]])))
 none)
 (cond (byI h0_0 (wrapI IntKind.i64 (i4 + 1)) == 116)
 (cond (roomN (List.length h1 + 1) 1)
 (G (atext_q7 (wrapI IntKind.i64 (wrapI IntKind.i64 (i4 + 1) + 1)) h0_0 h0_1 (h1 ++ [[L.int IntKind.u8 9]])))
 none)
 (cond (byI h0_0 (wrapI IntKind.i64 (i4 + 1)) == 34)
 (cond (leI 0 (wrapI IntKind.i64 (i4 + 1)) && ltI (wrapI IntKind.i64 (i4 + 1)) (↑(ByteArray.size h0_0) : Int))
 (cond (roomN (List.length h1 + 1) 1)
 (G (atext_q7 (wrapI IntKind.i64 (wrapI IntKind.i64 (i4 + 1) + 1)) h0_0 h0_1 (h1 ++ [[L.int IntKind.u8 (byI h0_0 (wrapI IntKind.i64 (i4 + 1)))]])))
 none)
 none)
 (cond (byI h0_0 (wrapI IntKind.i64 (i4 + 1)) == 92)
 (cond (leI 0 (wrapI IntKind.i64 (i4 + 1)) && ltI (wrapI IntKind.i64 (i4 + 1)) (↑(ByteArray.size h0_0) : Int))
 (cond (roomN (List.length h1 + 1) 1)
 (G (atext_q7 (wrapI IntKind.i64 (wrapI IntKind.i64 (i4 + 1) + 1)) h0_0 h0_1 (h1 ++ [[L.int IntKind.u8 (byI h0_0 (wrapI IntKind.i64 (i4 + 1)))]])))
 none)
 none)
 (some [(.str (mk [])), (.str (h0_0)), (.bool (true))])))))
 none))
 (cond (roomN (List.length h1 + 1) 1)
 (G (atext_q7 (wrapI IntKind.i64 (i4 + 1)) h0_0 h0_1 (h1 ++ [[L.int IntKind.u8 (byI h0_0 i4)]])))
 none))))
 none)
 (cond (leI (↑(ByteArray.size h0_0) : Int) i4)
 (some [(.str (mk [])), (.str (h0_0)), (.bool (true))])
 (cond (ltI 2000 (↑(List.length h1) : Int))
 (some [(.str (mk [])), (.str (h0_0)), (.bool (true))])
 (cond (leI 0 (wrapI IntKind.i64 (i4 + 1)) && leI (wrapI IntKind.i64 (i4 + 1)) (↑(ByteArray.size h0_0) : Int))
 (some [(.str (ByteArray.mk (List.toArray (List.map (fun c => UInt8.ofNat (Int.toNat (cI 0 c))) h1)))), (.str (ByteArray.extract h0_0 (Int.toNat (wrapI IntKind.i64 (i4 + 1))) (ByteArray.size h0_0))), (.bool (h0_1))])
 none))))
 none)
 (cond (leI (↑(ByteArray.size h0_0) : Int) i4)
 (some [(.str (mk [])), (.str (h0_0)), (.bool (true))])
 (cond (ltI 2000 (↑(List.length h1) : Int))
 (some [(.str (mk [])), (.str (h0_0)), (.bool (true))])
 (cond (leI 0 (wrapI IntKind.i64 (i4 + 1)) && leI (wrapI IntKind.i64 (i4 + 1)) (↑(ByteArray.size h0_0) : Int))
 (some [(.str (ByteArray.mk (List.toArray (List.map (fun c => UInt8.ofNat (Int.toNat (cI 0 c))) h1)))), (.str (ByteArray.extract h0_0 (Int.toNat (wrapI IntKind.i64 (i4 + 1))) (ByteArray.size h0_0))), (.bool (h0_1))])
 none)))) := by kernel_rfl

end Go.Ab
namespace Go.Proofs
open Go.RowKit

theorem T69_info : ∃ j, Tryz.prog.info? 69 = some j ∧ j.size = 2 := by
  have h : (Tryz.prog.info? 69).map (·.size) = some 2 := by kernel_rfl
  obtain ⟨j, h1, h2⟩ := Option.map_eq_some_iff.1 h
  exact ⟨j, h1, h2⟩
theorem T69_lies : Go.liesAt Tryz.prog Tryz.prog.depth 69 (2 / Tryz.prog.cellsOf 69) 0 69 1 = true := by kernel_rfl

set_option maxHeartbeats 1000000 in
set_option maxRecDepth 100000 in
theorem cc_used (b : Nat) (w : World) (h0 : w.cell? ⟨b, 0, none⟩ = some (.pointer (some ⟨b, 0, none⟩))) :
    Calls Tryz.prog 49 #[.pointer (some ⟨b, 0, none⟩)] w fun e w' => e = .returned (.tuple #[]) ∧ w' = w := by
  obtain ⟨j, hj, _⟩ := T69_info
  go_enter Tryz.func49, Tryz.ntmps49
  go_wp2
  rw [Lib.run_neq_ptr_same w _ Tryz.underlying66 hj]
  go_wp2
  go_end0
  exact ⟨rfl, rfl⟩

set_option maxHeartbeats 1000000 in
set_option maxRecDepth 100000 in
theorem cc_fresh (b : Nat) (w : World) (h0 : w.cell? ⟨b, 0, none⟩ = some (.pointer none)) (hsh : w.shape? b = some (69, 2)) (hfz : w.frozen? ⟨b, 0, none⟩ = false) :
    Calls Tryz.prog 49 #[.pointer (some ⟨b, 0, none⟩)] w fun e w' => e = .returned (.tuple #[]) ∧ w' = w.setCell ⟨b, 0, none⟩ (.pointer (some ⟨b, 0, none⟩)) := by
  obtain ⟨j, hj, hjs⟩ := T69_info
  go_enter Tryz.func49, Tryz.ntmps49
  go_wp2
  rw [Lib.run_to_unsafe w ⟨b, 0, none⟩ Tryz.underlying66 Tryz.underlying118 hj (by rw [hjs]; decide) hsh (Nat.zero_lt_succ 1)]
  simp only [Result.andThen]
  rw [Oper.upon_value]
  go_wp2
  rw [run_callFunc_extern Tryz.func77 (by kernel_rfl) (by kernel_rfl) (by kernel_rfl) (e := Extern.AbiNoEscape.same) (by kernel_rfl)]
  rw [Lib.run_noEscape]
  simp only [Result.andThen]
  rw [Oper.upon_value]
  go_wp2
  rw [Lib.run_from_unsafe w ⟨b, 0, none⟩ Tryz.underlying118 Tryz.underlying66 hj hsh T69_lies]
  simp only [Result.andThen]
  rw [Oper.upon_value]
  go_wp2
  go_end0
  exact ⟨rfl, rfl⟩

theorem T126 : Tryz.prog.cellsOf 5 = 1 := by kernel_rfl
set_option maxHeartbeats 2000000 in
set_option maxRecDepth 1000000 in
theorem bs_some (b g cap : Nat) (p : Value) (cur : Array Value) (l : List UInt8) (w : World) (h0 : l ≠ []) (hbk : w.heap[b]? = some (.cells #[p, .slice (some ⟨g, 0, none⟩) l.length cap] 69 (0, 0)))
    (hg : w.heap[g]? = some (.cells cur 5 (0, 0))) (hcap : cap ≠ 0) (hl : l.length ≤ cur.size) (hm : l.length ≤ 9223372036854775807) (hcell : ∀ (j : Nat) x, l[j]? = some x → w.cell? ((⟨g, 0, none⟩ : Addr).add j) = some (.int .u8 x.toNat)) :
    Calls Tryz.prog 27 #[.pointer (some ⟨b, 0, none⟩)] w fun e w' => e = .returned (.string ⟨l.toArray⟩) ∧ w' = w.drew.freeze ⟨g, 0, none⟩ l.length := by
  have c1 : w.drew.cell? ⟨b, 1, none⟩ = some (.slice (some ⟨g, 0, none⟩) l.length cap) := by
    have : w.drew.heap[b]? = some (.cells #[p, .slice (some ⟨g, 0, none⟩) l.length cap] 69 (0, 0)) := hbk
    rw [Lib.cell_of_heap this]; rfl
  have hSD : (Builtin.unsafeSliceData_ #[67] 101 #[.slice (some ⟨g, 0, none⟩) l.length cap]).run Tryz.prog w.drew = .ok (.pointer (some ⟨g, 0, none⟩)) w.drew :=
    Lib.run_unsafeSliceData_row _ _ _ _ _ _ hcap
  have hUS : (Builtin.unsafeString_ #[101, 3] 9 #[.pointer (some ⟨g, 0, none⟩), .int .i64 l.length]).run Tryz.prog w.drew = .ok (.string ⟨l.toArray⟩) (w.drew.freeze ⟨g, 0, none⟩ l.length) := by
    refine Lib.run_unsafeString_row w.drew 101 3 9 5 Tryz.underlying101 T126 g cur.size (by have hg' : w.drew.heap[g]? = some (.cells cur 5 (0, 0)) := hg; simp [World.shape?, hg']) l h0 hl hm ?_
    intro j x hx
    exact hcell j x hx
  have mixed : Tryz.prog.follows .mixedOrders = true := by kernel_rfl
  go_enter Tryz.func27, Tryz.ntmps27
  go_wp2
  go_region_o
  all_goals (go_wp2; go_ret; exact ⟨rfl, rfl⟩)
set_option maxHeartbeats 2000000 in
set_option maxRecDepth 100000 in
theorem bs_nil (b : Nat) (p : Value) (w : World) (hbk : w.heap[b]? = some (.cells #[p, .slice none 0 0] 69 (0, 0))) :
    Calls Tryz.prog 27 #[.pointer (some ⟨b, 0, none⟩)] w fun e w' => e = .returned (.string ⟨#[]⟩) ∧ w' = w.drew := by
  have hUS : ∀ (W : World) (q : Option Addr), (Builtin.unsafeString_ #[101, 3] 9 #[.pointer q, .int .i64 0]).run Tryz.prog W = .ok (.string .empty) W := fun W q => Lib.run_unsafeString_none W _ _ _ q
  have c1 : w.drew.cell? ⟨b, 1, none⟩ = some (.slice none 0 0) := by
    have : w.drew.heap[b]? = some (.cells #[p, .slice none 0 0] 69 (0, 0)) := hbk
    rw [Lib.cell_of_heap this]; rfl
  have hSD : (Builtin.unsafeSliceData_ #[67] 101 #[.slice none 0 0]).run Tryz.prog w.drew = .ok (.pointer none) w.drew := rfl
  have mixed : Tryz.prog.follows .mixedOrders = true := by kernel_rfl
  go_enter Tryz.func27, Tryz.ntmps27
  go_wp2
  go_region_o
  all_goals (go_wp2; go_ret; exact ⟨rfl, rfl⟩)
set_option maxHeartbeats 2000000 in
set_option maxRecDepth 100000 in
theorem bs_noroom (b g : Nat) (p : Value) (cur : Array Value) (w : World) (hbk : w.heap[b]? = some (.cells #[p, .slice (some ⟨g, 0, none⟩) 0 0] 69 (0, 0))) (hg : w.heap[g]? = some (.cells cur 5 (0, 0))) :
    Calls Tryz.prog 27 #[.pointer (some ⟨b, 0, none⟩)] w fun e w' => e = .returned (.string ⟨#[]⟩) ∧ w' = w.drew.alloc (.view ⟨g, 0, none⟩ 5) := by
  have hUS : ∀ (W : World) (q : Option Addr), (Builtin.unsafeString_ #[101, 3] 9 #[.pointer q, .int .i64 0]).run Tryz.prog W = .ok (.string .empty) W := fun W q => Lib.run_unsafeString_none W _ _ _ q
  have hlt : b < w.heap.size := by
    rcases Nat.lt_or_ge b w.heap.size with h' | h'
    · exact h'
    · simp [Array.getElem?_eq_none h'] at hbk
  have c1 : w.drew.cell? ⟨b, 1, none⟩ = some (.slice (some ⟨g, 0, none⟩) 0 0) := by
    have : w.drew.heap[b]? = some (.cells #[p, .slice (some ⟨g, 0, none⟩) 0 0] 69 (0, 0)) := hbk
    rw [Lib.cell_of_heap this]; rfl
  have hSD : (Builtin.unsafeSliceData_ #[67] 101 #[.slice (some ⟨g, 0, none⟩) 0 0]).run Tryz.prog w.drew = .ok (.pointer (some ⟨w.drew.heap.size, 0, none⟩)) (w.drew.alloc (.view ⟨g, 0, none⟩ 5)) :=
    Lib.run_unsafeSliceData_zero w.drew _ _ 5 Tryz.underlying101 ⟨g, 0, none⟩ 0 (5, cur.size) (by have hg' : w.drew.heap[g]? = some (.cells cur 5 (0, 0)) := hg; simp [World.shape?, hg'])
  have c2 : (w.drew.alloc (.view ⟨g, 0, none⟩ 5)).cell? ⟨b, 1, none⟩ = some (.slice (some ⟨g, 0, none⟩) 0 0) := by
    have : (w.drew.alloc (.view ⟨g, 0, none⟩ 5)).heap[b]? = _ := (Lib.alloc_old w.drew _ b hlt).trans hbk
    rw [Lib.cell_of_heap this]; rfl
  have c3 : (w.alloc (.view ⟨g, 0, none⟩ 5)).drew.cell? ⟨b, 1, none⟩ = some (.slice (some ⟨g, 0, none⟩) 0 0) := c2
  have c0 : w.cell? ⟨b, 1, none⟩ = some (.slice (some ⟨g, 0, none⟩) 0 0) := c1
  have mixed : Tryz.prog.follows .mixedOrders = true := by kernel_rfl
  go_enter Tryz.func27, Tryz.ntmps27
  go_wp2
  go_region_o
  all_goals (go_wp2; go_ret; exact ⟨rfl, rfl⟩)
set_option maxHeartbeats 2000000 in
set_option maxRecDepth 100000 in
theorem bs_room (b g cap : Nat) (p : Value) (w : World) (hc0 : cap ≠ 0) (hbk : w.heap[b]? = some (.cells #[p, .slice (some ⟨g, 0, none⟩) 0 cap] 69 (0, 0))) :
    Calls Tryz.prog 27 #[.pointer (some ⟨b, 0, none⟩)] w fun e w' => e = .returned (.string ⟨#[]⟩) ∧ w' = w.drew := by
  have hUS : ∀ (W : World) (q : Option Addr), (Builtin.unsafeString_ #[101, 3] 9 #[.pointer q, .int .i64 0]).run Tryz.prog W = .ok (.string .empty) W := fun W q => Lib.run_unsafeString_none W _ _ _ q
  have c1 : w.drew.cell? ⟨b, 1, none⟩ = some (.slice (some ⟨g, 0, none⟩) 0 cap) := by
    have : w.drew.heap[b]? = some (.cells #[p, .slice (some ⟨g, 0, none⟩) 0 cap] 69 (0, 0)) := hbk
    rw [Lib.cell_of_heap this]; rfl
  have hSD : (Builtin.unsafeSliceData_ #[67] 101 #[.slice (some ⟨g, 0, none⟩) 0 cap]).run Tryz.prog w.drew = .ok (.pointer (some ⟨g, 0, none⟩)) w.drew :=
    Lib.run_unsafeSliceData_row _ _ _ _ _ _ hc0
  clear hc0
  have mixed : Tryz.prog.follows .mixedOrders = true := by kernel_rfl
  go_enter Tryz.func27, Tryz.ntmps27
  go_wp2
  go_region_o
  all_goals (go_wp2; go_ret; exact ⟨rfl, rfl⟩)
end Go.Proofs
namespace Go.Ab
open Go.Proofs

theorem arr1 {vs : Array Value} {a : Value} (h : vs.toList = [a]) : vs = #[a] := by rw [← Array.toArray_toList (xs := vs), h]
theorem arr2 {vs : Array Value} {a b : Value} (h : vs.toList = [a, b]) : vs = #[a, b] := by rw [← Array.toArray_toList (xs := vs), h]
theorem self69 (t : TypeId) (h : selfT Tryz.prog t = true) : t = 69 := by
  have hall : ((List.range 232).all fun t => !selfT Tryz.prog t || t == 69) = true := by kernel_rfl
  have hs : Tryz.prog.types.size = 232 := by kernel_rfl
  have h' := h
  unfold selfT at h'
  rw [Bool.and_eq_true, hs] at h'
  have hlt := Nat.le_of_ble_eq_true h'.1
  have := List.all_eq_true.1 hall t (by simp; omega)
  rw [h] at this
  simpa using this
theorem tag69 : tagB (cfg []).P [.oth, .sl 5] 69 = true := by kernel_rfl
theorem rt49 : Tryz.f49.resultTypes = #[] := by kernel_rfl
theorem kinds5 : kinds (cfg []).P 5 = [.int .u8] := by kernel_rfl
theorem bld_open {C : Cfg} (hk5 : kinds C.P 5 = [.int .u8]) (h69 : ∀ t, selfT C.P t = true → t = 69) {w : World} {fz : Fz} {ρ : Rho} {S : Nat → Prop} {xs : List (List L)} (H : HSim C.P w fz ρ S [.box [.oth, .sl 5] [.slf 0 0, .row 1], .row 5 xs true]) :
    ∃ g p v us, ρ 0 = some (.pointer (some ⟨g, 0, none⟩)) ∧ w.heap[g]? = some (.cells #[p, v] 69 (0, 0)) ∧ (p = .pointer none ∨ p = .pointer (some ⟨g, 0, none⟩)) ∧
      w.ownsRow 0 5 1 v xs.length us ∧ RepLs (Rep C.P w fz ρ) us xs.flatten ∧ (∀ e ∈ xs, Conf C.P 5 e) ∧ sizeT C.P 5 = 1 ∧ (∀ o, ¬ fz g o) ∧ S g ∧ ∀ g', bk v = some g' → g' ≠ g ∧ S g' ∧ ∀ o, ¬ fz g' o := by
  have h0 : BS C.P w fz ρ 0 (.box [.oth, .sl 5] [.slf 0 0, .row 1]) := H.blk 0
  have h1 : BS C.P w fz ρ 1 (.row 5 xs true) := H.blk 1
  obtain ⟨g, us0, t, a1, a2, a3, a4, a5, a6⟩ := h0
  obtain ⟨v, us, c1, c2, c3, c4, c5, c6, c7, c8⟩ := h1
  obtain rfl := h69 _ a6
  rw [hk5] at c2 c6 c7
  match hu : us0.toList, a3 with
  | [p, v'], a3 =>
    obtain rfl := arr2 hu
    obtain ⟨e1, e2, _⟩ := a3
    obtain ⟨v2, e3, e4⟩ := rep_row_inv e2
    rw [c1] at e3
    cases e3
    cases e4
    refine ⟨g, p, v, us, a1, a2, ?_, c2, c3, c4, c6, a5, H.wr 0 _ g (by simp) a1 (.of rfl), fun g' hg' => ⟨fun e => ?_, H.wr 1 _ g' (by simp) c1 (.of hg'), fun o ho => ?_⟩⟩
    · cases e1 with
      | slf _ _ ad _ q1 q2 =>
        rw [a1] at q1
        cases q1
        rcases q2 with rfl | rfl
        · exact .inl rfl
        · right; rw [add_zero']
    · subst e
      exact H.dis 0 1 _ _ g' (by decide) (by simp) (by simp) a1 c1 (.of rfl) (.of hg')
    · have := (c7 g' o hg' ho).1
      cases this
theorem ptr_arg {C : Cfg} {w : World} {fz : Fz} {ρ : Rho} {v : Value} {g : Nat} (h1 : ρ 0 = some (.pointer (some ⟨g, 0, none⟩))) (h : Rep C.P w fz ρ v (.ptr 0 0)) : v = .pointer (some ⟨g, 0, none⟩) := by
  cases h with
  | ptr _ _ a h2 =>
    rw [h1] at h2
    cases h2
    rw [add_zero']
theorem cell_fzk {w w' : World} {fz : Fz} {g : Nat} (hlt : ∀ g o, fz g o → g < w.heap.size) (hn : ∀ o, ¬ fz g o) (hold : ∀ k, k < w.heap.size → k ≠ g → w'.heap[k]? = w.heap[k]?) : Kp fz w w' := by
  refine ⟨fun g' o v hz hc => ?_, fun g' es c hz hc => ?_⟩
  · have hne : g' ≠ g := fun e => hn o (e ▸ hz)
    rw [World.cell?_of_block (w := w) (a := ⟨g', o, none⟩) (hold g' (hlt g' o hz) hne)]
    exact hc
  · have hne : g' ≠ g := fun e => hn 0 (e ▸ hz)
    rw [hold g' (hlt g' 0 hz) hne]
    exact hc
theorem none_rep {C : Cfg} {w : World} {fz : Fz} {ρ ρ' : Rho} {t : TypeId} {us : List Value} {xs : List (List L)} (hc : ∀ e ∈ xs, Conf C.P t e) (h : RepLs (Rep C.P w fz ρ) us xs.flatten) {w' : World}
    (hk : Kp fz w w') : RepLs (Rep C.P w' fz ρ') us xs.flatten := by
  refine h.mono fun u l hl hu => ?_
  obtain ⟨e, he, hle⟩ := List.mem_flatten.1 hl
  obtain ⟨kk, hk'⟩ := HasKs.mem (hc e he) l hle
  have h1 : Rep C.P w fz ρ' u l := hu.of_hasK C.P hk'
  exact h1.mono C.P hk (fun _ _ h => h) (by simp [hk'.refs])

theorem bld_end {C : Cfg} (hk5 : kinds C.P 5 = [.int .u8]) (htag : tagB C.P [.oth, .sl 5] 69 = true) {f : FuncId} {fn : Func} (hf : C.P.funcs[f]? = some fn) (hr : fn.resultTypes = #[]) {w w' : World} {fz : Fz} {ρ : Rho} {S : Nat → Prop} {xs : List (List L)} {g : Nat} {p' v : Value} {us : List Value}
    (hlt : ∀ g o, fz g o → g < w.heap.size) (b1 : ρ 0 = some (.pointer (some ⟨g, 0, none⟩))) (b4 : w.ownsRow 0 5 1 v xs.length us) (b5 : RepLs (Rep C.P w fz ρ) us xs.flatten) (b6 : ∀ e ∈ xs, Conf C.P 5 e) (b7 : sizeT C.P 5 = 1)
    (b8 : ∀ o, ¬ fz g o) (b9 : S g) (b10 : ∀ g', bk v = some g' → g' ≠ g ∧ S g' ∧ ∀ o, ¬ fz g' o)
    (q1 : w'.os = w.os) (q2 : w'.tape = w.tape) (q3 : w'.output = w.output) (q4 : w.heap.size ≤ w'.heap.size) (q5 : ∀ k, k < w.heap.size → k ≠ g → w'.heap[k]? = w.heap[k]?)
    (q6 : w'.heap[g]? = some (.cells #[p', v] 69 (0, 0))) (q7 : p' = .pointer (some ⟨g, 0, none⟩)) : EndOk C f w fz ρ S [.box [.oth, .sl 5] [.slf 0 0, .any], .no] [.any, .lst 5 xs] (.tuple #[]) w' fz := by
  have hk := cell_fzk (w' := w') hlt b8 q5
  refine ⟨⟨q1, q2, q3, q4, fun k hk' hn => q5 k hk' (fun e => hn (.inl (e ▸ b9))), hk, .refl⟩, fun g o h => Nat.lt_of_lt_of_le (hlt g o h) q4, fn, [], [], [], (bk v).toList, [g], hf, rfl, by rw [hr]; rfl, by rw [hr]; rfl, ?_, ?_, ?_⟩
  · rw [hr]
    show BxS C.P w' fz ρ 0 [.box [.oth, .sl 5] [.slf 0 0, .any], .no] [.any, .lst 5 xs] (bk v).toList [g]
    refine ⟨g, #[p', v], 69, (bk v).toList, [], [], b1, q6, ⟨b8, htag⟩, ?_, by simp, rfl, rfl, rfl⟩
    refine ⟨.slf 0 0 ⟨g, 0, none⟩ _ b1 (.inr (by rw [q7, add_zero'])), ?_⟩
    show if false = true then _ else if true = false then _ else _
    rw [if_neg (by decide), if_neg (by decide)]
    refine ⟨xs, [], v, .refl _, rfl, ⟨us, ?_, none_rep b6 b5 hk, b6, by rw [hk5]; decide, by rw [hk5]; exact b7, fun g' o hg' => (b10 g' hg').2.2 o⟩, by simp, rfl⟩
    rw [hk5]
    exact ownsRow_move b4 fun g' hg' => q5 g' (own_bk_lt b4 hg') (b10 g' hg').1
  · cases hbk : bk v with
    | none => simp
    | some g' => simpa using fun e => (b10 g' hbk).1 e.symm
  · intro g' hg'
    have : bk v = some g' := by simpa using hg'
    exact .inl (b10 g' this).2.1

theorem cc_ext {C : Cfg} (hk5 : kinds C.P 5 = [.int .u8]) (h69 : ∀ t, selfT C.P t = true → t = 69) (htag : tagB C.P [.oth, .sl 5] 69 = true) {fn : Func} (hf : C.P.funcs[(49 : Nat)]? = some fn) (hr : fn.resultTypes = #[])
    (c1 : ∀ (b : Nat) (w : World), w.cell? ⟨b, 0, none⟩ = some (.pointer none) → w.shape? b = some (69, 2) → w.frozen? ⟨b, 0, none⟩ = false →
      Calls C.P 49 #[.pointer (some ⟨b, 0, none⟩)] w fun e w' => e = .returned (.tuple #[]) ∧ w' = w.setCell ⟨b, 0, none⟩ (.pointer (some ⟨b, 0, none⟩)))
    (c2 : ∀ (b : Nat) (w : World), w.cell? ⟨b, 0, none⟩ = some (.pointer (some ⟨b, 0, none⟩)) → Calls C.P 49 #[.pointer (some ⟨b, 0, none⟩)] w fun e w' => e = .returned (.tuple #[]) ∧ w' = w) : ExtFor C 49 k_cc.2 := by
  intro aa hp r hs w fz ρ S vs hT H hargs
  simp only [k_cc] at hs
  split at hs
  case h_2 => cases hs
  rename_i xs
  obtain ⟨_, rfl⟩ := xo hs
  obtain ⟨g, p, v, us, b1, b2, b3, b4, b5, b6, b7, b8, b9, b10⟩ := bld_open hk5 h69 H
  have hva : vs = #[.pointer (some ⟨g, 0, none⟩)] := by
    match hv : vs.toList, hargs with
    | [a], hargs => rw [arr1 hv, ptr_arg b1 hargs.1]
  subst hva
  have fin := fun (w' : World) (p' : Value) => bld_end (w' := w') (p' := p') hk5 htag hf hr H.lt b1 b4 b5 b6 b7 b8 b9 b10
  rcases b3 with rfl | rfl
  · have hc0 : w.cell? ⟨g, 0, none⟩ = some (.pointer none) := by rw [Lib.cell_of_heap b2]; rfl
    refine (c1 g w hc0 (by simp [World.shape?, b2]) (Lib.frozen_of_heap b2 0)).mono ?_
    rintro e w' ⟨rfl, rfl⟩
    refine ⟨_, fz, rfl, fin _ (.pointer (some ⟨g, 0, none⟩)) rfl rfl rfl (by simp [World.setCell]) (fun k _ hk => ?_) ?_ rfl⟩
    · simp [World.setCell, Array.getElem?_modify, Ne.symm hk]
    · simp [World.setCell, Array.getElem?_modify, b2]
  · have hc0 : w.cell? ⟨g, 0, none⟩ = some (.pointer (some ⟨g, 0, none⟩)) := by rw [Lib.cell_of_heap b2]; rfl
    refine (c2 g w hc0).mono ?_
    rintro e w' ⟨rfl, rfl⟩
    exact ⟨_, fz, rfl, fin _ _ rfl rfl rfl (Nat.le_refl _) (fun k _ _ => rfl) b2 rfl⟩
theorem cc_holds : Holds k_cc := cc_ext (C := cfg []) kinds5 self69 tag69 Tryz.func49 rt49 (fun b w h1 h2 h3 => cc_fresh b w h1 h2 h3) (fun b w h => cc_used b w h)
end Go.Ab
namespace Go.Ab
open Go.Proofs

theorem bs_end {C : Cfg} (hag : isAggT C.P 9 = false) (hk9 : kinds C.P 9 = [.str]) (htag : tagB C.P [.oth, .sl 5] 69 = true) {f : FuncId} {fn : Func} (hf : C.P.funcs[f]? = some fn) (hr : fn.resultTypes = #[9]) {w w' : World} {fz : Fz} {ρ : Rho} {S : Nat → Prop} {g : Nat} {p v : Value} {s : ByteArray}
    (hlt : ∀ g o, fz g o → g < w.heap.size) (b1 : ρ 0 = some (.pointer (some ⟨g, 0, none⟩))) (hp : p = .pointer none ∨ p = .pointer (some ⟨g, 0, none⟩)) (b8 : ∀ o, ¬ fz g o)
    (q1 : w'.os = w.os) (q2 : w'.tape = w.tape) (q3 : w'.output = w.output) (q4 : w.heap.size ≤ w'.heap.size) (q5 : ∀ k, k < w.heap.size → ¬ S k → w'.heap[k]? = w.heap[k]?)
    (hk : Kp fz w w') (q6 : w'.heap[g]? = some (.cells #[p, v] 69 (0, 0))) :
    EndOk C f w fz ρ S [.box [.oth, .sl 5] [.slf 0 0, .any], .no] [.str s, .any, .any] (.string s) w' fz := by
  refine ⟨⟨q1, q2, q3, q4, fun k hk' hn => q5 k hk' (fun h => hn (.inl h)), hk, .refl⟩, fun g o h => Nat.lt_of_lt_of_le (hlt g o h) q4, fn, [.string s], [.string s], [], [], [g], hf, rfl, ?_, ?_, ?_, by simp, by simp⟩
  · rw [hr]
    exact ⟨[.string s], [], rfl, by rw [hk9]; rfl, by rw [hk9]; decide, by rw [hag]; rfl, rfl⟩
  · rw [hr]
    simp only [List.flatMap_cons, List.flatMap_nil, hk9, List.append_nil]
    exact ⟨⟨s, rfl⟩, .str s, rfl⟩
  · rw [hr]
    simp only [List.flatMap_cons, List.flatMap_nil, hk9, List.append_nil]
    show BxS C.P w' fz ρ 0 [.box [.oth, .sl 5] [.slf 0 0, .any], .no] [.any, .any] [] [g]
    refine ⟨g, #[p, v], 69, [], [], [], b1, q6, ⟨b8, htag⟩, ?_, rfl, rfl, rfl, rfl⟩
    refine ⟨.slf 0 0 ⟨g, 0, none⟩ _ b1 (by rw [add_zero']; exact hp), ?_⟩
    show if false = true then _ else if false = false then _ else _
    rw [if_neg (by decide), if_pos rfl]
    rfl
theorem eB_flat (l : List UInt8) : (eB l).flatten = l.map fun b => L.int .u8 b.toNat := by
  unfold eB
  induction l with
  | nil => rfl
  | cons b l ih => rw [List.map_cons, List.flatten_cons, ih]; rfl
theorem bs_ext {C : Cfg} (hag : isAggT C.P 9 = false) (hk9 : kinds C.P 9 = [.str]) (hk5 : kinds C.P 5 = [.int .u8]) (h69 : ∀ t, selfT C.P t = true → t = 69) (htag : tagB C.P [.oth, .sl 5] 69 = true) {fn : Func} (hf : C.P.funcs[(27 : Nat)]? = some fn) (hr : fn.resultTypes = #[9])
    (c1 : ∀ (b g cap : Nat) (p : Value) (cur : Array Value) (l : List UInt8) (w : World), l ≠ [] → w.heap[b]? = some (.cells #[p, .slice (some ⟨g, 0, none⟩) l.length cap] 69 (0, 0)) →
      w.heap[g]? = some (.cells cur 5 (0, 0)) → cap ≠ 0 → l.length ≤ cur.size → l.length ≤ 9223372036854775807 → (∀ (j : Nat) x, l[j]? = some x → w.cell? ((⟨g, 0, none⟩ : Addr).add j) = some (.int .u8 x.toNat)) →
      Calls C.P 27 #[.pointer (some ⟨b, 0, none⟩)] w fun e w' => e = .returned (.string ⟨l.toArray⟩) ∧ w' = w.drew.freeze ⟨g, 0, none⟩ l.length)
    (c2 : ∀ (b : Nat) (p : Value) (w : World), w.heap[b]? = some (.cells #[p, .slice none 0 0] 69 (0, 0)) → Calls C.P 27 #[.pointer (some ⟨b, 0, none⟩)] w fun e w' => e = .returned (.string ⟨#[]⟩) ∧ w' = w.drew)
    (c3 : ∀ (b g : Nat) (p : Value) (cur : Array Value) (w : World), w.heap[b]? = some (.cells #[p, .slice (some ⟨g, 0, none⟩) 0 0] 69 (0, 0)) → w.heap[g]? = some (.cells cur 5 (0, 0)) →
      Calls C.P 27 #[.pointer (some ⟨b, 0, none⟩)] w fun e w' => e = .returned (.string ⟨#[]⟩) ∧ w' = w.drew.alloc (.view ⟨g, 0, none⟩ 5))
    (c4 : ∀ (b g cap : Nat) (p : Value) (w : World), cap ≠ 0 → w.heap[b]? = some (.cells #[p, .slice (some ⟨g, 0, none⟩) 0 cap] 69 (0, 0)) →
      Calls C.P 27 #[.pointer (some ⟨b, 0, none⟩)] w fun e w' => e = .returned (.string ⟨#[]⟩) ∧ w' = w.drew) : ExtFor C 27 k_bs.2 := by
  intro aa hp r hs w fz ρ S vs hT H hargs
  simp only [k_bs] at hs
  split at hs
  case h_2 => cases hs
  rename_i xs
  obtain ⟨hg, rfl⟩ := xo hs
  rw [Bool.and_eq_true] at hg
  obtain ⟨l, rfl⟩ := isBy_of hg.1
  have hlen := Nat.le_of_ble_eq_true hg.2
  have hel : (eB l).length = l.length := by simp [eB]
  rw [hel] at hlen
  rw [dB_e]
  obtain ⟨g, p, v, us, b1, b2, b3, b4, b5, b6, b7, b8, b9, b10⟩ := bld_open hk5 h69 H
  have hva : vs = #[.pointer (some ⟨g, 0, none⟩)] := by
    match hv : vs.toList, hargs with
    | [a], hargs => rw [arr1 hv, ptr_arg b1 hargs.1]
  subst hva
  have fin := fun (w' : World) (s : ByteArray) => bs_end (S := S) (v := v) (w' := w') (s := s) hag hk9 htag hf hr H.lt b1 b3 b8
  have hglt : g < w.heap.size := (Array.getElem?_eq_some_iff.1 b2).1
  have dr : EndOk C 27 w fz ρ S [.box [.oth, .sl 5] [.slf 0 0, .any], .no] [.str (mk []), .any, .any] (.string (mk [])) w.drew fz :=
    fin w.drew (mk []) rfl rfl rfl (Nat.le_refl _) (fun _ _ _ => rfl) (Kp.refl _ _) b2
  rw [hel] at b4
  rcases id b4 with ⟨hul, ⟨rfl, hn⟩ | ⟨g2, cap, cur, rfl, hbg, hg2, hnc, hcm, hcs, htake⟩⟩
  · obtain rfl : l = [] := List.eq_nil_of_length_eq_zero hn
    refine (c2 g p w b2).mono ?_
    rintro e w' ⟨rfl, rfl⟩
    exact ⟨_, fz, rfl, dr⟩
  · have h10 := b10 g2 rfl
    by_cases hl0 : l = []
    · subst hl0
      by_cases hc : cap = 0
      · subst hc
        refine (c3 g g2 p cur w b2 hg2).mono ?_
        rintro e w' ⟨rfl, rfl⟩
        have hold : ∀ k, k < w.heap.size → (w.drew.alloc (.view ⟨g2, 0, none⟩ 5)).heap[k]? = w.heap[k]? := fun k hk => heap_alloc_old w.drew _ hk
        exact ⟨_, fz, rfl, fin _ (mk []) rfl rfl rfl (by simp) (fun k hk _ => hold k hk) (fz_cell H.lt hold) ((hold g hglt).trans b2)⟩
      · refine (c4 g g2 cap p w hc b2).mono ?_
        rintro e w' ⟨rfl, rfl⟩
        exact ⟨_, fz, rfl, dr⟩
    · have hlp : 0 < l.length := List.length_pos_iff.2 hl0
      refine (c1 g g2 cap p cur l w hl0 b2 hg2 (by omega) (by omega) (by omega) (fun j x hx => ?_)).mono ?_
      · have hfj : (eB l).flatten[j]? = some (L.int .u8 x.toNat) := by rw [eB_flat, List.getElem?_map, hx]; rfl
        obtain ⟨u, hu, hr'⟩ := b5.get j _ hfj
        have hc := b4.cells (g := g2) rfl j u hu
        rw [rep_int hr'] at hc
        exact hc
      · rintro e w' ⟨rfl, rfl⟩
        have hfr : ∀ k, k ≠ g2 → (w.drew.freeze ⟨g2, 0, none⟩ l.length).heap[k]? = w.heap[k]? := by
          intro k hk
          unfold World.freeze
          rw [if_neg (by omega)]
          show (w.heap.modify g2 _)[k]? = _
          rw [Array.getElem?_modify, if_neg (Ne.symm hk)]
        have hsz : (w.drew.freeze ⟨g2, 0, none⟩ l.length).heap.size = w.heap.size := by
          unfold World.freeze
          rw [if_neg (by omega)]
          show (w.heap.modify g2 _).size = _
          simp
        have hos : (w.drew.freeze ⟨g2, 0, none⟩ l.length).os = w.os ∧ (w.drew.freeze ⟨g2, 0, none⟩ l.length).tape = w.tape ∧ (w.drew.freeze ⟨g2, 0, none⟩ l.length).output = w.output := by
          unfold World.freeze
          rw [if_neg (by omega)]
          exact ⟨rfl, rfl, rfl⟩
        exact ⟨_, fz, rfl, fin _ (mk l) hos.1 hos.2.1 hos.2.2 (by omega) (fun k _ hn => hfr k fun e => hn (e ▸ h10.2.1)) (cell_fzk H.lt h10.2.2 fun k _ hk => hfr k hk) ((hfr g (fun e => h10.1 e.symm)).trans b2)⟩
theorem rt27 : Tryz.f27.resultTypes = #[9] := by kernel_rfl
theorem kinds9 : kinds (cfg []).P 9 = [.str] := by kernel_rfl
theorem agg9 : isAggT (cfg []).P 9 = false := by kernel_rfl
theorem bs_holds : Holds k_bs := bs_ext (C := cfg []) agg9 kinds9 kinds5 self69 tag69 Tryz.func27 rt27 (fun b g cap p cur l w h1 h2 h3 h4 h5 h6 h7 => bs_some b g cap p cur l w h1 h2 h3 h4 h5 h6 h7) (fun b p w h => bs_nil b p w h) (fun b g p cur w h1 h2 => bs_noroom b g p cur w h1 h2) (fun b g cap p w h1 h2 => bs_room b g cap p w h1 h2)
end Go.Ab
namespace Go.Ab
open Go.Proofs
theorem pnext_e (G : Req → R) (r0_0 : ByteArray) (r0_1 : Bool) : runB (cfg []) G (.enter 65 [(.lf (.ptr 0 0))] [(.box [.str, .bool] [(.str (r0_0)), (.bool (r0_1))])]) =
 (cond (r0_1)
 (some [(.bool (false)), (.str (r0_0)), (.bool (true))])
 (cond (bl r0_0 == bl (mk []))
 (some [(.bool (false)), (.str (r0_0)), (.bool (true))])
 (cond (ltI 0 (↑(ByteArray.size r0_0) : Int))
 (cond (byI r0_0 0 != 32)
 (some [(.bool (false)), (.str (r0_0)), (.bool (true))])
 (cond (leI 1 (↑(ByteArray.size r0_0) : Int))
 (some [(.bool (true)), (.str (ByteArray.extract r0_0 1 (ByteArray.size r0_0))), (.bool (r0_1))])
 none))
 none))) := by kernel_rfl

theorem pmore_e (G : Req → R) (r0_0 : ByteArray) (r0_1 : Bool) : runB (cfg []) G (.enter 62 [(.lf (.ptr 0 0))] [(.box [.str, .bool] [(.str (r0_0)), (.bool (r0_1))])]) =
 (cond (!r0_1)
 (some [(.bool (!bl r0_0 == bl (mk []))), (.str (r0_0)), (.bool (r0_1))])
 (some [(.bool (false)), (.str (r0_0)), (.bool (r0_1))])) := by kernel_rfl

theorem raw_e (G : Req → R) (r0_0 : ByteArray) (r0_1 : Bool) : runB (cfg [k_pnext, k_Cut]) G (.enter 63 [(.lf (.ptr 0 0))] [(.box [.str, .bool] [(.str (r0_0)), (.bool (r0_1))])]) =
 (cond (!nxO (bl r0_0) r0_1)
 (some [(.str (mk [])), (.str (mk (nxS (bl r0_0) r0_1))), (.bool (!nxO (bl r0_0) r0_1))])
 (cond (Nat.ble (ByteArray.size (mk (nxS (bl r0_0) r0_1))) 1000000 && true)
 (cond (leI 0 (↑(ByteArray.size (mk (upB (bl (mk (nxS (bl r0_0) r0_1)))))) : Int) && leI (↑(ByteArray.size (mk (upB (bl (mk (nxS (bl r0_0) r0_1)))))) : Int) (↑(ByteArray.size (mk (nxS (bl r0_0) r0_1))) : Int))
 (some [(.str (mk (upB (bl (mk (nxS (bl r0_0) r0_1)))))), (.str (ByteArray.extract (mk (nxS (bl r0_0) r0_1)) (Int.toNat (↑(ByteArray.size (mk (upB (bl (mk (nxS (bl r0_0) r0_1)))))) : Int)) (ByteArray.size (mk (nxS (bl r0_0) r0_1))))), (.bool (!nxO (bl r0_0) r0_1))])
 none)
 none)) := by kernel_rfl

noncomputable def pword_q5 (w3 : ByteArray) (x18 : Int) (x19 : Int) (h0_0 : ByteArray) (h0_1 : Bool) : Req := .point 42 [(.box [.str, .bool] [.any, .any])] (todoAt Tryz.prog 42 5) ⟨[(.lf (.ptr 0 0)), an, an, (.lf (.str w3)), an, an, an, an, an, an, an, an, an, an, an, an, an, an, (.lf (.int IntKind.i64 x18)), (.lf (.int IntKind.i64 x19)), an, an, an, an, an, an, an, an, an, an, an, an, an, an, an, an, an], [(.box [.str, .bool] [(.str h0_0), (.bool h0_1)])]⟩
theorem pword_e (G : Req → R) (r0_0 : ByteArray) (r0_1 : Bool) : runB (cfg [k_raw]) G (.enter 42 [(.lf (.ptr 0 0))] [(.box [.str, .bool] [(.str (r0_0)), (.bool (r0_1))])]) =
 (cond (sm (List.length (bl r0_0)))
 (cond (bl (mk (rwW (bl r0_0) r0_1)) == bl (mk []))
 (G (pword_q5 (mk (rwW (bl r0_0) r0_1)) ((↑(ByteArray.size (mk (rwW (bl r0_0) r0_1))) : Int)) 0 (mk (rwS (bl r0_0) r0_1)) true))
 (cond (ltI 60 (↑(ByteArray.size (mk (rwW (bl r0_0) r0_1))) : Int))
 (G (pword_q5 (mk (rwW (bl r0_0) r0_1)) ((↑(ByteArray.size (mk (rwW (bl r0_0) r0_1))) : Int)) 0 (mk (rwS (bl r0_0) r0_1)) true))
 (G (pword_q5 (mk (rwW (bl r0_0) r0_1)) ((↑(ByteArray.size (mk (rwW (bl r0_0) r0_1))) : Int)) 0 (mk (rwS (bl r0_0) r0_1)) (!nxO (bl r0_0) r0_1)))))
 none) := by kernel_rfl
theorem pword_p5 (G : Req → R) (w3 : ByteArray) (x18 : Int) (x19 : Int) (h0_0 : ByteArray) (h0_1 : Bool) : runB (cfg [k_raw]) G (pword_q5 w3 x18 x19 h0_0 h0_1) =
 (cond (ltI x19 x18)
 (cond (leI 0 x19 && ltI x19 (↑(ByteArray.size w3) : Int))
 (cond (ltI (byI w3 x19) 33)
 (G (pword_q5 w3 x18 (wrapI IntKind.i64 (x19 + 1)) h0_0 true))
 (cond (leI 0 x19 && ltI x19 (↑(ByteArray.size w3) : Int))
 (cond (ltI 126 (byI w3 x19))
 (G (pword_q5 w3 x18 (wrapI IntKind.i64 (x19 + 1)) h0_0 true))
 (G (pword_q5 w3 x18 (wrapI IntKind.i64 (x19 + 1)) h0_0 h0_1)))
 none))
 none)
 (some [(.str (w3)), (.str (h0_0)), (.bool (h0_1))])) := by kernel_rfl

theorem anext_e (G : Req → R) (a0_0 : ByteArray) (a0_1 : Bool) : runB (cfg []) G (.enter 86 [(.lf (.ptr 0 0))] [(.box [.str, .bool] [(.str (a0_0)), (.bool (a0_1))])]) =
 (cond (bl a0_0 == bl (mk []))
 (some [(.str (mk [])), (.bool (true))])
 (cond (ltI 0 (↑(ByteArray.size a0_0) : Int))
 (cond (byI a0_0 0 != 32)
 (some [(.str (mk [])), (.bool (true))])
 (cond (leI 1 (↑(ByteArray.size a0_0) : Int))
 (some [(.str (ByteArray.extract a0_0 1 (ByteArray.size a0_0))), (.bool (a0_1))])
 none))
 none)) := by kernel_rfl

theorem amore_e (G : Req → R) (a0_0 : ByteArray) (a0_1 : Bool) : runB (cfg []) G (.enter 87 [(.lf (.ptr 0 0))] [(.box [.str, .bool] [(.str (a0_0)), (.bool (a0_1))])]) =
 (cond (!a0_1)
 (some [(.bool (!bl a0_0 == bl (mk []))), (.str (a0_0)), (.bool (a0_1))])
 (some [(.bool (false)), (.str (a0_0)), (.bool (a0_1))])) := by kernel_rfl

noncomputable def aword_q3 (n3 : Int) (h0_0 : ByteArray) (h0_1 : Bool) : Req := .point 69 [(.box [.str, .bool] [.any, .any])] (todoAt Tryz.prog 69 3) ⟨[(.lf (.ptr 0 0)), an, an, (.lf (.int IntKind.i64 n3)), an, an, an, an, an, an, an, an, an, an, an, an, an, an, an, an, an, an, an, an, an, an, an, an, an, an, an, an, an, an, an, an, an, an, an, an, an, an, an, an, an, an, an, an, an, an, an, an, an, an, an, an, an, an, an], [(.box [.str, .bool] [(.str h0_0), (.bool h0_1)])]⟩
theorem aword_e (G : Req → R) (a0_0 : ByteArray) (a0_1 : Bool) : runB (cfg [k_anext]) G (.enter 69 [(.lf (.ptr 0 0))] [(.box [.str, .bool] [(.str (a0_0)), (.bool (a0_1))])]) =
 (G (aword_q3 0 (mk (anS (bl a0_0))) (anB (bl a0_0) a0_1))) := by kernel_rfl
theorem aword_p3 (G : Req → R) (n3 : Int) (h0_0 : ByteArray) (h0_1 : Bool) : runB (cfg [k_anext]) G (aword_q3 n3 h0_0 h0_1) =
 (cond (ltI n3 (↑(ByteArray.size h0_0) : Int))
 (cond (leI 0 n3 && ltI n3 (↑(ByteArray.size h0_0) : Int))
 (cond (ltI 32 (byI h0_0 n3))
 (cond (leI 0 n3 && ltI n3 (↑(ByteArray.size h0_0) : Int))
 (cond (ltI (byI h0_0 n3) 127)
 (G (aword_q3 (wrapI IntKind.i64 (n3 + 1)) h0_0 h0_1))
 (cond (leI 0 n3 && leI n3 (↑(ByteArray.size h0_0) : Int))
 (cond (leI 0 n3 && leI n3 (↑(ByteArray.size h0_0) : Int))
 (cond (n3 == 0)
 (some [(.str (ByteArray.extract h0_0 0 (Int.toNat n3))), (.str (ByteArray.extract h0_0 (Int.toNat n3) (ByteArray.size h0_0))), (.bool (true))])
 (cond (ltI 60 n3)
 (some [(.str (ByteArray.extract h0_0 0 (Int.toNat n3))), (.str (ByteArray.extract h0_0 (Int.toNat n3) (ByteArray.size h0_0))), (.bool (true))])
 (some [(.str (ByteArray.extract h0_0 0 (Int.toNat n3))), (.str (ByteArray.extract h0_0 (Int.toNat n3) (ByteArray.size h0_0))), (.bool (h0_1))])))
 none)
 none))
 none)
 (cond (leI 0 n3 && leI n3 (↑(ByteArray.size h0_0) : Int))
 (cond (leI 0 n3 && leI n3 (↑(ByteArray.size h0_0) : Int))
 (cond (n3 == 0)
 (some [(.str (ByteArray.extract h0_0 0 (Int.toNat n3))), (.str (ByteArray.extract h0_0 (Int.toNat n3) (ByteArray.size h0_0))), (.bool (true))])
 (cond (ltI 60 n3)
 (some [(.str (ByteArray.extract h0_0 0 (Int.toNat n3))), (.str (ByteArray.extract h0_0 (Int.toNat n3) (ByteArray.size h0_0))), (.bool (true))])
 (some [(.str (ByteArray.extract h0_0 0 (Int.toNat n3))), (.str (ByteArray.extract h0_0 (Int.toNat n3) (ByteArray.size h0_0))), (.bool (h0_1))])))
 none)
 none))
 none)
 (cond (leI 0 n3 && leI n3 (↑(ByteArray.size h0_0) : Int))
 (cond (leI 0 n3 && leI n3 (↑(ByteArray.size h0_0) : Int))
 (cond (n3 == 0)
 (some [(.str (ByteArray.extract h0_0 0 (Int.toNat n3))), (.str (ByteArray.extract h0_0 (Int.toNat n3) (ByteArray.size h0_0))), (.bool (true))])
 (cond (ltI 60 n3)
 (some [(.str (ByteArray.extract h0_0 0 (Int.toNat n3))), (.str (ByteArray.extract h0_0 (Int.toNat n3) (ByteArray.size h0_0))), (.bool (true))])
 (some [(.str (ByteArray.extract h0_0 0 (Int.toNat n3))), (.str (ByteArray.extract h0_0 (Int.toNat n3) (ByteArray.size h0_0))), (.bool (h0_1))])))
 none)
 none)) := by kernel_rfl

end Go.Ab
namespace Go.Ab
open Go.Proofs

theorem drop_at {α : Type} (d : α) {l : List α} {i : Nat} (h : i < l.length) : l.drop i = l.getD i d :: l.drop (i + 1) := by
  rw [List.drop_eq_getElem_cons h]
  simp [h]
theorem drop_end {α : Type} {l : List α} {i : Nat} (h : l.length ≤ i) : l.drop i = [] := List.drop_eq_nil_of_le h
theorem RunsF.cond {C : Cfg} {c : Bool} {F1 F2 : (Req → R) → R} {r : List L} (h1 : c = true → RunsF C F1 r) (h2 : c = false → RunsF C F2 r) : RunsF C (fun G => cond c (F1 G) (F2 G)) r := by
  cases c
  · exact h2 rfl
  · exact h1 rfl
theorem ltI_t {a b : Int} (h : ltI a b = true) : a < b := by simpa using h
theorem ltI_f {a b : Int} (h : ltI a b = false) : b ≤ a := by simpa using h
theorem beq_nil (s : W) : (bl (mk s) == bl (mk [])) = s.isEmpty := by cases s <;> rfl
theorem ext_all (l : W) (i : Nat) : (mk l).extract i l.length = mk (l.drop i) := by rw [ext_mk, List.take_length]
theorem blk_cons (c : UInt8) (t : W) : ((c.toNat : Int) != 32) = !isBlk (c :: t) := by
  show _ = !(c.toNat == 32)
  by_cases h : c.toNat = 32
  · rw [ev_ne_f (by omega), h]; rfl
  · rw [ev_ne_t (by omega)]
    simp [h]

theorem pnext_holds : Holds k_pnext := conRd_of (ks := []) hold0 fun s b _ => by
  refine Runs.by (pnext_e · _ _) ?_
  cases b
  · cases s with
    | nil => exact .ret
    | cons c t =>
      have e0 : byI (mk (c :: t)) 0 = (c.toNat : Int) := byI_mk (c :: t) 0
      rw [e0, blk_cons]
      simp (disch := simp only [List.length_cons]; omega) only [cond_false, beq_nil, List.isEmpty_cons, size_mk, ev_lt_t, ev_le_t, cond_true, ext_all]
      unfold nxO nxS nxO stR
      cases isBlk (c :: t)
      · exact .ret
      · exact .ret
  · exact .ret
theorem pmore_holds : Holds k_pmore := conRd_of (ks := []) hold0 fun s b _ => by
  refine Runs.by (pmore_e · _ _) ?_
  cases b
  · simp only [beq_nil]
    exact .ret
  · exact .ret
theorem anext_holds : Holds k_anext := conRd_of (ks := []) hold0 fun s b _ => by
  refine Runs.by (anext_e · _ _) ?_
  cases s with
  | nil =>
    unfold stR anS anB isBlk
    cases b
    · exact .ret
    · exact .ret
  | cons c t =>
    have e0 : byI (mk (c :: t)) 0 = (c.toNat : Int) := byI_mk (c :: t) 0
    rw [e0, blk_cons]
    simp (disch := simp only [List.length_cons]; omega) only [cond_false, beq_nil, List.isEmpty_cons, size_mk, ev_lt_t, ev_le_t, cond_true, ext_all]
    unfold anS anB stR
    cases isBlk (c :: t) <;> cases b <;> exact .ret
theorem amore_holds : Holds k_amore := conRd_of (ks := []) hold0 fun s b _ => by
  refine Runs.by (amore_e · _ _) ?_
  cases b
  · simp only [beq_nil]
    exact .ret
  · exact .ret
theorem upB_le (t : W) : (upB t).length ≤ t.length := (List.takeWhile_sublist _).length_le
theorem vis_le (t : W) : (vis t).length ≤ t.length := (List.takeWhile_sublist _).length_le
theorem nxS_len (s : W) (b : Bool) : (nxS s b).length ≤ s.length := by
  unfold nxS
  cases nxO s b
  · exact Nat.le_refl _
  · show (s.drop 1).length ≤ _
    rw [List.length_drop]; omega
theorem raw_holds (hC : Holds k_Cut) : Holds k_raw := conRd_of (ks := [k_pnext, k_Cut]) (hold1 pnext_holds (hold1 hC hold0)) fun s b g => by
  have g := sm_of g
  refine Runs.by (raw_e · _ _) ?_
  have h1 := nxS_len s b
  have h2 := upB_le (nxS s b)
  cases h : nxO s b
  · unfold rwW rwS stR nxS
    rw [h]
    exact .ret
  · have eb : bl (mk s) = s := rfl
    have eb2 : bl (mk (nxS s b)) = nxS s b := rfl
    simp (disch := omega) only [eb, eb2, size_mk, Nat.ble_eq_true_of_le (show (nxS s b).length ≤ 1000000 by omega), Bool.and_self, cond_true, Bool.not_true, cond_false, ev_le_t, ext_all, Int.toNat_natCast]
    have e : nxS s b = s.drop 1 := by unfold nxS; rw [h]; rfl
    unfold rwW rwS stR
    rw [h, e]
    exact .ret
theorem rwW_len (s : W) (b : Bool) : (rwW s b).length ≤ s.length := by
  unfold rwW
  cases nxO s b
  · exact Nat.zero_le _
  · have := upB_le (s.drop 1)
    rw [List.length_drop] at this
    show (upB (s.drop 1)).length ≤ _
    omega
theorem vis_b (c : UInt8) : isVis c = decide (33 ≤ c.toNat ∧ c.toNat ≤ 126) := by
  unfold isVis
  rw [Bool.eq_iff_iff, Bool.and_eq_true, Nat.ble_eq, Nat.ble_eq, decide_eq_true_eq]
theorem pword_loop (hx : ∀ p ∈ [k_raw], Holds p) (w s : W) (hw : w.length ≤ 1000000) : ∀ (m i : Nat) (b : Bool), i + m = w.length → Runs (cfg [k_raw]) (pword_q5 (mk w) (w.length : Nat) (i : Nat) (mk s) b) [.str (mk w), .str (mk s), .bool (b || !(w.drop i).all isVis)]
  | 0, i, b, h => by
    refine Runs.by (pword_p5 · _ _ _ _ _) ?_
    simp (disch := omega) only [ev_lt_f, cond_false]
    rw [drop_end (by omega)]
    exact .ret' (by simp)
  | m + 1, i, b, h => by
    have ih := fun b => pword_loop hx w s hw m (i + 1) b (by omega)
    refine Runs.by (pword_p5 · _ _ _ _ _) ?_
    simp (disch := omega) only [size_mk, ev_lt_t, ev_le_t, Bool.and_self, cond_true, byI_mk, w64]
    rw [drop_at (l := w) 0 (by omega), List.all_cons, vis_b]
    refine RunsF.cond (fun hc => ?_) (fun hc => ?_)
    · have hc := ltI_t hc
      have e : decide (33 ≤ (w.getD i 0).toNat ∧ (w.getD i 0).toNat ≤ 126) = false := decide_eq_false (by omega)
      rw [e]
      have := ih true
      simp only [Bool.true_or] at this
      rw [Bool.false_and, Bool.not_false, Bool.or_true]
      exact .go this
    · have hc := ltI_f hc
      refine RunsF.cond (fun hd => ?_) (fun hd => ?_)
      · have hd := ltI_t hd
        have e : decide (33 ≤ (w.getD i 0).toNat ∧ (w.getD i 0).toNat ≤ 126) = false := decide_eq_false (by omega)
        rw [e]
        have := ih true
        simp only [Bool.true_or] at this
        rw [Bool.false_and, Bool.not_false, Bool.or_true]
        exact .go this
      · have hd := ltI_f hd
        have e : decide (33 ≤ (w.getD i 0).toNat ∧ (w.getD i 0).toNat ≤ 126) = true := decide_eq_true (by omega)
        rw [e, Bool.true_and]
        exact .go (ih b)
theorem pword_holds (hC : Holds k_Cut) : Holds k_pword := conRd_of (ks := [k_raw]) (hold1 (raw_holds hC) hold0) fun s b g => by
  have g' := sm_of g
  have hw := rwW_len s b
  have L := fun b' => pword_loop (hold1 (raw_holds hC) hold0) (rwW s b) (rwS s b) (by omega) (rwW s b).length 0 b' (Nat.zero_add _)
  refine Runs.by (pword_e · _ _) ?_
  have eb : bl (mk s) = s := rfl
  simp only [eb, g, cond_true, beq_nil, size_mk]
  have fin : ∀ b', (b' || !((rwW s b).drop 0).all isVis) = !(nxO s b && wdOk (rwW s b)) → Runs (cfg [k_raw]) (pword_q5 (mk (rwW s b)) ((rwW s b).length : Nat) 0 (mk (rwS s b)) b') (.str (mk (rwW s b)) :: stR (rwS s b) (!(nxO s b && wdOk (rwW s b)))) := fun b' e => by
    have := L b'
    rw [e] at this
    exact this
  refine RunsF.cond (fun hc => ?_) (fun hc => ?_)
  · refine .go (fin true ?_)
    have : rwW s b = [] := List.isEmpty_iff.1 hc
    unfold wdOk
    rw [this]
    cases nxO s b <;> rfl
  · have h1 : 1 ≤ (rwW s b).length := by
      cases hq : rwW s b with
      | nil => rw [hq] at hc; cases hc
      | cons => simp
    refine RunsF.cond (fun hd => ?_) (fun hd => ?_)
    · have hd := ltI_t hd
      refine .go (fin true ?_)
      unfold wdOk
      have : Nat.ble (rwW s b).length 60 = false := by rw [← Bool.not_eq_true, Nat.ble_eq]; omega
      rw [this, Bool.false_and, Bool.and_false, Bool.and_false, Bool.true_or]; rfl
    · have hd := ltI_f hd
      refine .go (fin _ ?_)
      unfold wdOk
      rw [Nat.ble_eq_true_of_le h1, Nat.ble_eq_true_of_le (show (rwW s b).length ≤ 60 by omega), List.drop_zero, Bool.true_and, Bool.true_and, Bool.not_and]
theorem aword_loop (t : W) (ht : t.length ≤ 1000000) (b : Bool) : ∀ m i : Nat, i + m = t.length → t.take i = (t.take i).takeWhile isVis → Runs (cfg [k_anext]) (aword_q3 (i : Nat) (mk t) b) (.str (mk (vis t)) :: stR (t.drop (vis t).length) (b || !awOk (vis t)))
  | m, i, h, hv => by
    have hi : i ≤ t.length := by omega
    -- where the word ends here
    have stop : vis t = t.take i → RunsF (cfg [k_anext]) (fun _ => (cond (leI 0 (i : Int) && leI (i : Int) (t.length : Nat))
        (cond (leI 0 (i : Int) && leI (i : Int) (t.length : Nat))
         (cond ((i : Int) == 0)
          (some [(.str (mk (t.take i))), (.str (mk (t.drop i))), (.bool (true))])
          (cond (ltI 60 (i : Int))
           (some [(.str (mk (t.take i))), (.str (mk (t.drop i))), (.bool (true))])
           (some [(.str (mk (t.take i))), (.str (mk (t.drop i))), (.bool b)])))
         none)
        none)) (.str (mk (vis t)) :: stR (t.drop (vis t).length) (b || !awOk (vis t))) := fun e => by
      have hl : (vis t).length = i := by rw [e, List.length_take]; omega
      unfold stR awOk
      rw [hl, e]
      simp (disch := omega) only [ev_le_t, Bool.and_self, cond_true]
      by_cases h0 : i = 0
      · subst h0
        exact .ret' (by simp [show Nat.ble 1 0 = false from rfl])
      · rw [ev_eq_f (by omega)]
        simp only [cond_false, Nat.ble_eq_true_of_le (show 1 ≤ i by omega), Bool.true_and]
        by_cases h6 : 60 < i
        · have : Nat.ble i 60 = false := by rw [← Bool.not_eq_true, Nat.ble_eq]; omega
          rw [ev_lt_t (by omega), this]
          exact .ret' (by simp)
        · rw [ev_lt_f (by omega), Nat.ble_eq_true_of_le (by omega)]
          exact .ret' (by simp)
    have ex0 : (mk t).extract 0 (Int.toNat (i : Int)) = mk (t.take i) := by rw [Int.toNat_natCast, ext_mk, List.drop_zero]
    have ex1 : (mk t).extract (Int.toNat (i : Int)) t.length = mk (t.drop i) := by rw [Int.toNat_natCast, ext_all]
    refine Runs.by (aword_p3 · _ _ _) ?_
    simp only [size_mk, ex0, ex1]
    cases m with
    | zero =>
      have e : t.take i = t := List.take_of_length_le (by omega)
      rw [ev_lt_f (by omega)]
      refine stop ?_
      rw [e] at hv ⊢
      exact hv.symm
    | succ m =>
      have ih := aword_loop t ht b m (i + 1) (by omega)
      have hd := drop_at (l := t) (0 : UInt8) (show i < t.length by omega)
      have hta : t.take (i + 1) = t.take i ++ [t.getD i 0] := by
        rw [List.take_add_one]
        simp [List.getD, List.getElem?_eq_getElem (show i < t.length by omega)]
      have hall : ∀ c ∈ t.take i, isVis c = true := fun c hc => by
        rw [hv] at hc
        have := List.all_takeWhile (p := isVis) (l := t.take i)
        exact List.all_eq_true.1 this c hc
      have hno : isVis (t.getD i 0) = false → vis t = t.take i := fun hn => by
        unfold vis
        conv => lhs; rw [← List.take_append_drop i t]
        rw [List.takeWhile_append_of_pos hall, hd, List.takeWhile_cons, hn]
        simp
      have hyes : isVis (t.getD i 0) = true → t.take (i + 1) = (t.take (i + 1)).takeWhile isVis := fun hy => by
        rw [hta, List.takeWhile_append_of_pos hall, List.takeWhile_cons, hy]; rfl
      simp (disch := omega) only [ev_lt_t, ev_le_t, Bool.and_self, cond_true, byI_mk, w64]
      rw [vis_b] at hno hyes
      refine RunsF.cond (fun hc => ?_) (fun hc => ?_)
      · have hc := ltI_t hc
        refine RunsF.cond (fun hd => ?_) (fun hd => ?_)
        · have hd := ltI_t hd
          exact .go (ih (hyes (decide_eq_true (by omega))))
        · have hd := ltI_f hd
          have := stop (hno (decide_eq_false (by omega)))
          simp (disch := omega) only [ev_le_t, Bool.and_self, cond_true] at this
          exact this
      · have hc := ltI_f hc
        have := stop (hno (decide_eq_false (by omega)))
        simp (disch := omega) only [ev_le_t, Bool.and_self, cond_true] at this
        exact this
theorem anS_len (s : W) : (anS s).length ≤ s.length := by
  unfold anS
  cases isBlk s
  · exact Nat.zero_le _
  · show (s.drop 1).length ≤ _
    rw [List.length_drop]; omega
theorem aword_holds : Holds k_aword := conRd_of (ks := [k_anext]) (hold1 anext_holds hold0) fun s b g => by
  have g := sm_of g
  have := anS_len s
  refine Runs.by (aword_e · _ _) ?_
  exact .go (aword_loop (anS s) (by omega) (anB s b) _ 0 (Nat.zero_add _) rfl)
end Go.Ab
namespace Go.Proofs
open Go.Shelf
def Tryz.lays156_ren : Go.Shelf.Ren := ⟨fun | 156 => 24 | 165 => 48 | 166 => 26 | 169 => 27 | 240 => 49 | 241 => 76 | 276 => 77 | 277 => 92 | n => n, fun | 31 => 36 | 9 => 9 | 3 => 3 | 4 => 4 | 0 => 0 | 20 => 20 | 72 => 69 | 76 => 72 | 70 => 66 | 37 => 67 | 75 => 71 | 127 => 101 | 164 => 118 | 5 => 5 | 80 => 74 | n => n, fun | n => n⟩
theorem Tryz.lays156 : Go.Proofs.Lays.n156 Tryz.prog Tryz.lays156_ren := {
  mixed := by kernel_rfl
  f156 := Tryz.func24.trans (congrArg some (by kernel_rfl))
  f165 := Tryz.func48.trans (congrArg some (by kernel_rfl))
  f166 := Tryz.func26.trans (congrArg some (by kernel_rfl))
  f169 := Tryz.func27.trans (congrArg some (by kernel_rfl))
  f240 := Tryz.func49.trans (congrArg some (by kernel_rfl))
  f241 := Tryz.func76.trans (congrArg some (by kernel_rfl))
  f276 := Tryz.func77.trans (congrArg some (by kernel_rfl))
  f277 := Tryz.func92.trans (congrArg some (by kernel_rfl))
  t0 := Tryz.underlying0
  a0 := Tryz.isAgg0
  z0 := Tryz.sizeOf0
  v0 := Tryz.zeroValue0
  t3 := Tryz.underlying3
  a3 := Tryz.isAgg3
  z3 := Tryz.sizeOf3
  v3 := Tryz.zeroValue3
  t4 := Tryz.underlying4
  a4 := Tryz.isAgg4
  z4 := Tryz.sizeOf4
  v4 := Tryz.zeroValue4
  t9 := Tryz.underlying9
  a9 := Tryz.isAgg9
  z9 := Tryz.sizeOf9
  v9 := Tryz.zeroValue9
  t20 := Tryz.underlying20
  a20 := Tryz.isAgg20
  z20 := Tryz.sizeOf20
  v20 := Tryz.zeroValue20
  t31 := Tryz.underlying36
  a31 := Tryz.isAgg36
  z31 := Tryz.sizeOf36
  v31 := Tryz.zeroValue36
  t37 := Tryz.underlying67
  a37 := Tryz.isAgg67
  z37 := Tryz.sizeOf67
  v37 := Tryz.zeroValue67
  t70 := Tryz.underlying66
  a70 := Tryz.isAgg66
  z70 := Tryz.sizeOf66
  v70 := Tryz.zeroValue66
  t72 := Tryz.underlying69
  a72 := Tryz.isAgg69
  z72 := Tryz.sizeOf69
  v72 := Tryz.zeroValue69
  t75 := Tryz.underlying71
  a75 := Tryz.isAgg71
  z75 := Tryz.sizeOf71
  v75 := Tryz.zeroValue71
  t76 := Tryz.underlying72
  a76 := Tryz.isAgg72
  z76 := Tryz.sizeOf72
  v76 := Tryz.zeroValue72
  t127 := Tryz.underlying101
  a127 := Tryz.isAgg101
  z127 := Tryz.sizeOf101
  v127 := Tryz.zeroValue101
  t164 := Tryz.underlying118
  a164 := Tryz.isAgg118
  z164 := Tryz.sizeOf118
  v164 := Tryz.zeroValue118 }
theorem Tryz.Builder_Extra_156 : Builder.Extra Tryz.prog Tryz.lays156_ren := {
  sizeBuilder := by kernel_rfl
  liesBuilder := by kernel_rfl
  t5 := Tryz.underlying5
  a5 := Tryz.isAgg5
  z5 := Tryz.sizeOf5
  v5 := Tryz.zeroValue5
  infoByte := by kernel_rfl
  cellsByte := by kernel_rfl
  sizeByte := by kernel_rfl
  neB5 := by decide }
open Go.RowKit in
theorem Tryz.strings_Join_none (a : Option Addr) (c : Nat) (sep : ByteArray) (w : World) :
    Calls Tryz.prog 24 #[.slice a 0 c, .string sep] w fun e w' => e = .returned (.string ⟨#[]⟩) ∧ w' = w := Any.strings_Join_none Tryz.lays156 Tryz.Builder_Extra_156 a c sep w
open Go.RowKit in
theorem Tryz.strings_Join (bk o c : Nat) (xs : List ByteArray) (sep : ByteArray) (w : World) (hcells : ∀ (j : Nat) x, xs[j]? = some x → w.cell? ⟨bk, o + j, none⟩ = some (.string x)) (hbk : bk < w.heap.size) (hN : xs.length ≤ 140737488355328) (hcap : xs.length ≤ c) (hlen : (Lib.join (xs.map (·.data.toList)) sep.data.toList).length ≤ 140737488355328) :
    Calls Tryz.prog 24 #[.slice (some ⟨bk, o, none⟩) xs.length c, .string sep] w fun e w' => e = .returned (.string ⟨(Lib.join (xs.map (·.data.toList)) sep.data.toList).toArray⟩) ∧ Below w.heap.size w w' := Any.strings_Join Tryz.lays156 Tryz.Builder_Extra_156 bk o c xs sep w hcells hbk hN hcap hlen
def Tryz.laysM171_ren : Go.Shelf.Ren := ⟨fun | 171 => 23 | 243 => 47 | 246 => 75 | 283 => 88 | 284 => 89 | 285 => 90 | 286 => 91 | 129 => 103 | 317 => 102 | 318 => 104 | 319 => 105 | 320 => 106 | 337 => 114 | 338 => 115 | n => n, fun | 3 => 3 | 9 => 9 | 2 => 2 | 4 => 4 | 171 => 139 | 0 => 0 | 53 => 140 | 37 => 67 | 5 => 5 | 173 => 143 | 212 => 151 | 51 => 123 | 20 => 20 | 213 => 152 | 46 => 149 | 232 => 190 | 233 => 191 | n => n, fun | 17 => 1 | 18 => 4 | 19 => 5 | n => n⟩
theorem Tryz.laysM171 : Go.Proofs.LaysM.n171 Tryz.prog Tryz.laysM171_ren := {
  mixed := by kernel_rfl
  f129 := Tryz.func103.trans (congrArg some (by kernel_rfl))
  f171 := Tryz.func23.trans (congrArg some (by kernel_rfl))
  f243 := Tryz.func47.trans (congrArg some (by kernel_rfl))
  f246 := Tryz.func75.trans (congrArg some (by kernel_rfl))
  f283 := Tryz.func88.trans (congrArg some (by kernel_rfl))
  f284 := Tryz.func89.trans (congrArg some (by kernel_rfl))
  f285 := Tryz.func90.trans (congrArg some (by kernel_rfl))
  f286 := Tryz.func91.trans (congrArg some (by kernel_rfl))
  f317 := Tryz.func102.trans (congrArg some (by kernel_rfl))
  f318 := Tryz.func104.trans (congrArg some (by kernel_rfl))
  f319 := Tryz.func105.trans (congrArg some (by kernel_rfl))
  f320 := Tryz.func106.trans (congrArg some (by kernel_rfl))
  f337 := Tryz.func114.trans (congrArg some (by kernel_rfl))
  f338 := Tryz.func115.trans (congrArg some (by kernel_rfl))
  t0 := Tryz.underlying0
  a0 := Tryz.isAgg0
  z0 := Tryz.sizeOf0
  v0 := Tryz.zeroValue0
  t2 := Tryz.underlying2
  a2 := Tryz.isAgg2
  z2 := Tryz.sizeOf2
  v2 := Tryz.zeroValue2
  t3 := Tryz.underlying3
  a3 := Tryz.isAgg3
  z3 := Tryz.sizeOf3
  v3 := Tryz.zeroValue3
  t4 := Tryz.underlying4
  a4 := Tryz.isAgg4
  z4 := Tryz.sizeOf4
  v4 := Tryz.zeroValue4
  t5 := Tryz.underlying5
  a5 := Tryz.isAgg5
  z5 := Tryz.sizeOf5
  v5 := Tryz.zeroValue5
  t9 := Tryz.underlying9
  a9 := Tryz.isAgg9
  z9 := Tryz.sizeOf9
  v9 := Tryz.zeroValue9
  t20 := Tryz.underlying20
  a20 := Tryz.isAgg20
  z20 := Tryz.sizeOf20
  v20 := Tryz.zeroValue20
  t37 := Tryz.underlying67
  a37 := Tryz.isAgg67
  z37 := Tryz.sizeOf67
  v37 := Tryz.zeroValue67
  t46 := Tryz.underlying149
  a46 := Tryz.isAgg149
  z46 := Tryz.sizeOf149
  v46 := Tryz.zeroValue149
  t51 := Tryz.underlying123
  a51 := Tryz.isAgg123
  z51 := Tryz.sizeOf123
  v51 := Tryz.zeroValue123
  t53 := Tryz.underlying140
  a53 := Tryz.isAgg140
  z53 := Tryz.sizeOf140
  v53 := Tryz.zeroValue140
  t171 := Tryz.underlying139
  a171 := Tryz.isAgg139
  z171 := Tryz.sizeOf139
  v171 := Tryz.zeroValue139
  t173 := Tryz.underlying143
  a173 := Tryz.isAgg143
  z173 := Tryz.sizeOf143
  v173 := Tryz.zeroValue143
  t212 := Tryz.underlying151
  a212 := Tryz.isAgg151
  z212 := Tryz.sizeOf151
  v212 := Tryz.zeroValue151
  t213 := Tryz.underlying152
  a213 := Tryz.isAgg152
  z213 := Tryz.sizeOf152
  t232 := Tryz.underlying190
  a232 := Tryz.isAgg190
  z232 := Tryz.sizeOf190
  v232 := Tryz.zeroValue190
  t233 := Tryz.underlying191
  a233 := Tryz.isAgg191
  z233 := Tryz.sizeOf191
  v233 := Tryz.zeroValue191
  g17 := by kernel_rfl
  g18 := by kernel_rfl
  g19 := by kernel_rfl
  i0 := by kernel_rfl
  i2 := by kernel_rfl
  i3 := by kernel_rfl
  i4 := by kernel_rfl
  i5 := by kernel_rfl
  i9 := by kernel_rfl
  i20 := by kernel_rfl
  i37 := by kernel_rfl
  i46 := by kernel_rfl
  i51 := by kernel_rfl
  i53 := by kernel_rfl
  i171 := by kernel_rfl
  i173 := by kernel_rfl
  i212 := by kernel_rfl
  i232 := by kernel_rfl
  i233 := by kernel_rfl
  m17 := by kernel_rfl
  m18 := by kernel_rfl
  m19 := by kernel_rfl }
open Go.RowKit Go.Sort Go.Lib in
theorem Tryz.strconv_Itoa (n : Int) (h0 : -9223372036854775808 ≤ n) (h1 : n ≤ 9223372036854775807) (w : World) (htab : Lib.TabIs Tryz.prog w "internal/strconv.uint64pow10" .u64 Lib.pow10Tab) :
    Calls Tryz.prog 23 #[.int .i64 n] w fun e w' => e = .returned (.string ⟨(Lib.itoa n).toArray⟩) ∧ ∃ k os, w' = grow (w.drewN k) os := Any.strconv_Itoa Tryz.laysM171 n h0 h1 w htab
def Tryz.lays217_ren : Go.Shelf.Ren := ⟨fun | 217 => 85 | 266 => 101 | n => n, fun | 9 => 9 | 5 => 5 | 3 => 3 | n => n, fun | n => n⟩
theorem Tryz.lays217 : Go.Proofs.Lays.n217 Tryz.prog Tryz.lays217_ren := {
  mixed := by kernel_rfl
  f217 := Tryz.func85.trans (congrArg some (by kernel_rfl))
  f266 := Tryz.func101.trans (congrArg some (by kernel_rfl))
  t3 := Tryz.underlying3
  a3 := Tryz.isAgg3
  z3 := Tryz.sizeOf3
  v3 := Tryz.zeroValue3
  t5 := Tryz.underlying5
  a5 := Tryz.isAgg5
  z5 := Tryz.sizeOf5
  v5 := Tryz.zeroValue5
  t9 := Tryz.underlying9
  a9 := Tryz.isAgg9
  z9 := Tryz.sizeOf9
  v9 := Tryz.zeroValue9 }
open Go.RowKit Go.Lib in
theorem Tryz.stringslite_IndexByte (s : ByteArray) (c : Int) (w : World) :
    Calls Tryz.prog 85 #[.string s, .int .u8 c] w fun e w' => e = .returned (.int .i64 (Lib.indexByte s.data.toList c.toNat.toUInt8)) ∧ w' = w := Any.stringslite_IndexByte Tryz.lays217 s c w
def Tryz.lays144_ren : Go.Shelf.Ren := ⟨fun | 144 => 33 | 143 => 52 | 219 => 80 | 217 => 85 | 225 => 96 | 224 => 97 | 267 => 98 | 266 => 101 | 314 => 113 | n => n, fun | 9 => 9 | 4 => 4 | 3 => 3 | 5 => 5 | 46 => 149 | 146 => 170 | 51 => 123 | n => n, fun | 1 => 0 | n => n⟩
theorem Tryz.lays144 : Go.Proofs.Lays.n144 Tryz.prog Tryz.lays144_ren := {
  mixed := by kernel_rfl
  f143 := Tryz.func52.trans (congrArg some (by kernel_rfl))
  f144 := Tryz.func33.trans (congrArg some (by kernel_rfl))
  f217 := Tryz.func85.trans (congrArg some (by kernel_rfl))
  f219 := Tryz.func80.trans (congrArg some (by kernel_rfl))
  f224 := Tryz.func97.trans (congrArg some (by kernel_rfl))
  f225 := Tryz.func96.trans (congrArg some (by kernel_rfl))
  f266 := Tryz.func101.trans (congrArg some (by kernel_rfl))
  f267 := Tryz.func98.trans (congrArg some (by kernel_rfl))
  f314 := Tryz.func113.trans (congrArg some (by kernel_rfl))
  t3 := Tryz.underlying3
  a3 := Tryz.isAgg3
  z3 := Tryz.sizeOf3
  v3 := Tryz.zeroValue3
  t4 := Tryz.underlying4
  a4 := Tryz.isAgg4
  z4 := Tryz.sizeOf4
  v4 := Tryz.zeroValue4
  t5 := Tryz.underlying5
  a5 := Tryz.isAgg5
  z5 := Tryz.sizeOf5
  v5 := Tryz.zeroValue5
  t9 := Tryz.underlying9
  a9 := Tryz.isAgg9
  z9 := Tryz.sizeOf9
  v9 := Tryz.zeroValue9
  t46 := Tryz.underlying149
  a46 := Tryz.isAgg149
  z46 := Tryz.sizeOf149
  v46 := Tryz.zeroValue149
  t51 := Tryz.underlying123
  a51 := Tryz.isAgg123
  z51 := Tryz.sizeOf123
  v51 := Tryz.zeroValue123
  t146 := Tryz.underlying170
  a146 := Tryz.isAgg170
  z146 := Tryz.sizeOf170
  v146 := Tryz.zeroValue170
  g1 := by kernel_rfl }
open Go.RowKit Go.Lib in
theorem Tryz.strings_Contains (s sub : ByteArray) (m : Int) (w : World) (hs : s.size < 4294967281) (hm : w.cell? ⟨0, 0, none⟩ = some (.int .i64 m)) :
    Calls Tryz.prog 33 #[.string s, .string sub] w fun e w' => e = .returned (.bool (Lib.contains s.data.toList sub.data.toList)) ∧ w' = w := Any.strings_Contains Tryz.lays144 s sub m w hs hm
def Tryz.lays145_ren : Go.Shelf.Ren := ⟨fun | 145 => 38 | 220 => 61 | 219 => 80 | 217 => 85 | 225 => 96 | 224 => 97 | 267 => 98 | 266 => 101 | 314 => 113 | n => n, fun | 9 => 9 | 4 => 4 | 59 => 84 | 3 => 3 | 5 => 5 | 46 => 149 | 146 => 170 | 51 => 123 | n => n, fun | 1 => 0 | n => n⟩
theorem Tryz.lays145 : Go.Proofs.Lays.n145 Tryz.prog Tryz.lays145_ren := {
  mixed := by kernel_rfl
  f145 := Tryz.func38.trans (congrArg some (by kernel_rfl))
  f217 := Tryz.func85.trans (congrArg some (by kernel_rfl))
  f219 := Tryz.func80.trans (congrArg some (by kernel_rfl))
  f220 := Tryz.func61.trans (congrArg some (by kernel_rfl))
  f224 := Tryz.func97.trans (congrArg some (by kernel_rfl))
  f225 := Tryz.func96.trans (congrArg some (by kernel_rfl))
  f266 := Tryz.func101.trans (congrArg some (by kernel_rfl))
  f267 := Tryz.func98.trans (congrArg some (by kernel_rfl))
  f314 := Tryz.func113.trans (congrArg some (by kernel_rfl))
  t3 := Tryz.underlying3
  a3 := Tryz.isAgg3
  z3 := Tryz.sizeOf3
  v3 := Tryz.zeroValue3
  t4 := Tryz.underlying4
  a4 := Tryz.isAgg4
  z4 := Tryz.sizeOf4
  v4 := Tryz.zeroValue4
  t5 := Tryz.underlying5
  a5 := Tryz.isAgg5
  z5 := Tryz.sizeOf5
  v5 := Tryz.zeroValue5
  t9 := Tryz.underlying9
  a9 := Tryz.isAgg9
  z9 := Tryz.sizeOf9
  v9 := Tryz.zeroValue9
  t46 := Tryz.underlying149
  a46 := Tryz.isAgg149
  z46 := Tryz.sizeOf149
  v46 := Tryz.zeroValue149
  t51 := Tryz.underlying123
  a51 := Tryz.isAgg123
  z51 := Tryz.sizeOf123
  v51 := Tryz.zeroValue123
  t59 := Tryz.underlying84
  a59 := Tryz.isAgg84
  z59 := Tryz.sizeOf84
  v59 := Tryz.zeroValue84
  t146 := Tryz.underlying170
  a146 := Tryz.isAgg170
  z146 := Tryz.sizeOf170
  v146 := Tryz.zeroValue170
  g1 := by kernel_rfl }
open Go.RowKit Go.Lib in
theorem Tryz.strings_Cut (s sep : ByteArray) (m : Int) (w : World) (hs : s.size < 4294967281) (hm : w.cell? ⟨0, 0, none⟩ = some (.int .i64 m)) :
    Calls Tryz.prog 38 #[.string s, .string sep] w fun e w' => e = .returned (.tuple #[.string ⟨(Lib.cut s.data.toList sep.data.toList).1.toArray⟩, .string ⟨(Lib.cut s.data.toList sep.data.toList).2.1.toArray⟩, .bool (Lib.cut s.data.toList sep.data.toList).2.2]) ∧ ∃ n, w' = w.drewN n := Any.strings_Cut Tryz.lays145 s sep m w hs hm
def Tryz.lays138_ren : Go.Shelf.Ren := ⟨fun | 138 => 60 | 195 => 81 | 218 => 83 | 143 => 52 | 219 => 80 | 217 => 85 | 225 => 96 | 224 => 97 | 267 => 98 | 266 => 101 | 314 => 113 | n => n, fun | 9 => 9 | 3 => 3 | 4 => 4 | 5 => 5 | 0 => 0 | 46 => 149 | 146 => 170 | 51 => 123 | n => n, fun | 1 => 0 | n => n⟩
theorem Tryz.lays138 : Go.Proofs.Lays.n138 Tryz.prog Tryz.lays138_ren := {
  mixed := by kernel_rfl
  f138 := Tryz.func60.trans (congrArg some (by kernel_rfl))
  f143 := Tryz.func52.trans (congrArg some (by kernel_rfl))
  f195 := Tryz.func81.trans (congrArg some (by kernel_rfl))
  f217 := Tryz.func85.trans (congrArg some (by kernel_rfl))
  f218 := Tryz.func83.trans (congrArg some (by kernel_rfl))
  f219 := Tryz.func80.trans (congrArg some (by kernel_rfl))
  f224 := Tryz.func97.trans (congrArg some (by kernel_rfl))
  f225 := Tryz.func96.trans (congrArg some (by kernel_rfl))
  f266 := Tryz.func101.trans (congrArg some (by kernel_rfl))
  f267 := Tryz.func98.trans (congrArg some (by kernel_rfl))
  f314 := Tryz.func113.trans (congrArg some (by kernel_rfl))
  t0 := Tryz.underlying0
  a0 := Tryz.isAgg0
  z0 := Tryz.sizeOf0
  v0 := Tryz.zeroValue0
  t3 := Tryz.underlying3
  a3 := Tryz.isAgg3
  z3 := Tryz.sizeOf3
  v3 := Tryz.zeroValue3
  t4 := Tryz.underlying4
  a4 := Tryz.isAgg4
  z4 := Tryz.sizeOf4
  v4 := Tryz.zeroValue4
  t5 := Tryz.underlying5
  a5 := Tryz.isAgg5
  z5 := Tryz.sizeOf5
  v5 := Tryz.zeroValue5
  t9 := Tryz.underlying9
  a9 := Tryz.isAgg9
  z9 := Tryz.sizeOf9
  v9 := Tryz.zeroValue9
  t46 := Tryz.underlying149
  a46 := Tryz.isAgg149
  z46 := Tryz.sizeOf149
  v46 := Tryz.zeroValue149
  t51 := Tryz.underlying123
  a51 := Tryz.isAgg123
  z51 := Tryz.sizeOf123
  v51 := Tryz.zeroValue123
  t146 := Tryz.underlying170
  a146 := Tryz.isAgg170
  z146 := Tryz.sizeOf170
  v146 := Tryz.zeroValue170
  g1 := by kernel_rfl }
open Go.RowKit Go.Lib in
theorem Tryz.strings_Count_one (s : ByteArray) (c : UInt8) (w : World) :
    Calls Tryz.prog 60 #[.string s, .string ⟨#[c]⟩] w fun e w' => e = .returned (.int .i64 (Lib.countByte s.data.toList c)) ∧ w' = w := Any.strings_Count_one Tryz.lays138 s c w
def Tryz.lays146_ren : Go.Shelf.Ren := ⟨fun | 146 => 18 | 221 => 37 | 268 => 59 | 138 => 60 | 143 => 52 | 195 => 81 | 197 => 82 | 218 => 83 | 219 => 80 | 260 => 99 | 217 => 85 | 225 => 96 | 224 => 97 | 267 => 98 | 266 => 101 | 314 => 113 | n => n, fun | 9 => 9 | 31 => 36 | 3 => 3 | 4 => 4 | 0 => 0 | 105 => 137 | 21 => 21 | 5 => 5 | 46 => 149 | 119 => 163 | 139 => 174 | 138 => 173 | 146 => 170 | 51 => 123 | n => n, fun | 1 => 0 | 3 => 2 | 4 => 3 | n => n⟩
theorem Tryz.lays146 : Go.Proofs.Lays.n146 Tryz.prog Tryz.lays146_ren := {
  mixed := by kernel_rfl
  f138 := Tryz.func60.trans (congrArg some (by kernel_rfl))
  f143 := Tryz.func52.trans (congrArg some (by kernel_rfl))
  f146 := Tryz.func18.trans (congrArg some (by kernel_rfl))
  f195 := Tryz.func81.trans (congrArg some (by kernel_rfl))
  f197 := Tryz.func82.trans (congrArg some (by kernel_rfl))
  f217 := Tryz.func85.trans (congrArg some (by kernel_rfl))
  f218 := Tryz.func83.trans (congrArg some (by kernel_rfl))
  f219 := Tryz.func80.trans (congrArg some (by kernel_rfl))
  f221 := Tryz.func37.trans (congrArg some (by kernel_rfl))
  f224 := Tryz.func97.trans (congrArg some (by kernel_rfl))
  f225 := Tryz.func96.trans (congrArg some (by kernel_rfl))
  f260 := Tryz.func99.trans (congrArg some (by kernel_rfl))
  f266 := Tryz.func101.trans (congrArg some (by kernel_rfl))
  f267 := Tryz.func98.trans (congrArg some (by kernel_rfl))
  f268 := Tryz.func59.trans (congrArg some (by kernel_rfl))
  f314 := Tryz.func113.trans (congrArg some (by kernel_rfl))
  t0 := Tryz.underlying0
  a0 := Tryz.isAgg0
  z0 := Tryz.sizeOf0
  v0 := Tryz.zeroValue0
  t3 := Tryz.underlying3
  a3 := Tryz.isAgg3
  z3 := Tryz.sizeOf3
  v3 := Tryz.zeroValue3
  t4 := Tryz.underlying4
  a4 := Tryz.isAgg4
  z4 := Tryz.sizeOf4
  v4 := Tryz.zeroValue4
  t5 := Tryz.underlying5
  a5 := Tryz.isAgg5
  z5 := Tryz.sizeOf5
  v5 := Tryz.zeroValue5
  t9 := Tryz.underlying9
  a9 := Tryz.isAgg9
  z9 := Tryz.sizeOf9
  v9 := Tryz.zeroValue9
  t21 := Tryz.underlying21
  a21 := Tryz.isAgg21
  z21 := Tryz.sizeOf21
  v21 := Tryz.zeroValue21
  t31 := Tryz.underlying36
  a31 := Tryz.isAgg36
  z31 := Tryz.sizeOf36
  v31 := Tryz.zeroValue36
  t46 := Tryz.underlying149
  a46 := Tryz.isAgg149
  z46 := Tryz.sizeOf149
  v46 := Tryz.zeroValue149
  t51 := Tryz.underlying123
  a51 := Tryz.isAgg123
  z51 := Tryz.sizeOf123
  v51 := Tryz.zeroValue123
  t105 := Tryz.underlying137
  a105 := Tryz.isAgg137
  z105 := Tryz.sizeOf137
  v105 := Tryz.zeroValue137
  t119 := Tryz.underlying163
  a119 := Tryz.isAgg163
  z119 := Tryz.sizeOf163
  t138 := Tryz.underlying173
  a138 := Tryz.isAgg173
  z138 := Tryz.sizeOf173
  v138 := Tryz.zeroValue173
  t139 := Tryz.underlying174
  a139 := Tryz.isAgg174
  z139 := Tryz.sizeOf174
  v139 := Tryz.zeroValue174
  t146 := Tryz.underlying170
  a146 := Tryz.isAgg170
  z146 := Tryz.sizeOf170
  v146 := Tryz.zeroValue170
  g1 := by kernel_rfl
  g3 := by kernel_rfl
  g4 := by kernel_rfl }
open Go.RowKit Go.Lib in
theorem Tryz.strings_Split (s sep : ByteArray) (m : Int) (w : World) (hs : s.size < 4294967281) (hm : w.cell? ⟨0, 0, none⟩ = some (.int .i64 m)) (h1 : 1 ≤ sep.size) :
    Calls Tryz.prog 18 #[.string s, .string sep] w fun e w' =>
      e = .returned (.slice (some ⟨w.heap.size, 0, none⟩) (Lib.countB s sep + 1) (Lib.countB s sep + 1)) ∧ w' = w.alloc (.cells ((Lib.splitB sep 0 (Lib.countB s sep) s).map Value.string).toArray 9) := Any.strings_Split Tryz.lays146 (by kernel_rfl) s sep m w hs hm h1
open Go.RowKit Go.Lib in
theorem Tryz.strings_Split_chars (s sep : ByteArray) (w : World) (h0 : sep.size = 0) (hs : s.size < 4294967281) (hascii : ∀ (j : Nat) b, s.data.toList[j]? = some b → b.toNat < 128) :
    Calls Tryz.prog 18 #[.string s, .string sep] w fun e w' =>
      e = .returned (.slice (some ⟨(w.iter s s.size).heap.size, 0, none⟩) s.size s.size) ∧ w' = (w.iter s s.size).alloc (.cells ((Lib.charsB s).map Value.string).toArray 9) := Any.strings_Split_chars Tryz.lays146 (by kernel_rfl) s sep w h0 hs hascii
end Go.Proofs
namespace Go.Ab
open Go.Proofs

theorem args_ss {C : Cfg} {w : World} {fz : Fz} {ρ : Rho} {vs : Array Value} {s p : ByteArray} (h : RepDs (Rep C.P w fz ρ) vs.toList [.lf (.str s), .lf (.str p)]) : vs = #[.string s, .string p] := by
  have hl := h.length
  match hv : vs.toList, h with
  | [a, b], h =>
    have h1 : a = .string s := rep_str h.1
    have h2 : b = .string p := rep_str h.2.1
    rw [← Array.toArray_toList (xs := vs), hv, h1, h2]
theorem index_ne (x c : UInt8) (l : List UInt8) (h : x ≠ c) : Lib.index (x :: l) [c] = if Lib.index l [c] = -1 then -1 else Lib.index l [c] + 1 := by
  rw [Lib.index]
  have : ([c] : List UInt8).isPrefixOf (x :: l) = false := by simp [List.isPrefixOf, Ne.symm h]
  rw [this]
  simp
theorem index_eq' (c : UInt8) (l : List UInt8) : Lib.index (c :: l) [c] = 0 := by
  rw [Lib.index]
  simp [List.isPrefixOf]
theorem index_upB : ∀ l : W, Lib.index l [32] = if (upB l).length < l.length then ((upB l).length : Int) else -1
  | [] => rfl
  | c :: l => by
    have ih := index_upB l
    by_cases h : c = 32
    · subst h
      rw [index_eq']
      have e : upB (32 :: l) = [] := rfl
      rw [e]
      simp
    · have hc : (!(c.toNat == 32)) = true := by
        rw [Bool.not_eq_true', beq_eq_false_iff_ne]
        exact fun e => h (UInt8.toNat_inj.1 e)
      have e : upB (c :: l) = c :: upB l := by
        unfold upB
        rw [List.takeWhile_cons, hc]; rfl
      rw [index_ne c 32 l h, ih, e, List.length_cons, List.length_cons]
      by_cases hl : (upB l).length < l.length
      · rw [if_pos hl, if_neg (by omega), if_pos (by omega)]; omega
      · rw [if_neg hl, if_pos rfl, if_neg (by omega)]
theorem upB_take : ∀ l : W, l.take (upB l).length = upB l
  | [] => rfl
  | c :: l => by
    unfold upB
    rw [List.takeWhile_cons]
    split
    · rw [List.length_cons, List.take_succ_cons]
      congr 1
      exact upB_take l
    · rfl
theorem cut_upB (l : W) : Lib.cut l [32] = (upB l, l.drop ((upB l).length + 1), decide ((upB l).length < l.length)) := by
  have hle := upB_le l
  unfold Lib.cut
  rw [index_upB]
  by_cases h : (upB l).length < l.length
  · rw [if_pos h, if_pos (by omega), Int.toNat_natCast, upB_take]
    simp [h]
  · rw [if_neg h, if_neg (by omega)]
    have e : upB l = l := by
      have h1 := upB_take l
      rw [List.take_of_length_le (by omega)] at h1
      exact h1.symm
    rw [e, drop_end (by omega)]
    simp
theorem maxlen_g : Tryz.prog.globalNamed "internal/bytealg.MaxLen" = some 0 := by kernel_rfl
theorem maxlen_c (w : World) (S : Nat → Prop) (hT : Tabs (cfg []) w S) : ∃ m, w.cell? ⟨0, 0, none⟩ = some (.int .i64 m) := by
  obtain ⟨g, h1, h2, h3, cs, h4, m, h5⟩ := hT ("internal/bytealg.MaxLen", fun cs => ∃ m, cs = #[Value.int .i64 m]) (by
    show _ ∈ tabsL
    simp [tabsL])
  refine ⟨m, ?_⟩
  have h4' : w.var? Tryz.prog "internal/bytealg.MaxLen" = some cs := h4
  unfold World.var? at h4'
  rw [maxlen_g] at h4'
  simp only [Option.bind_some] at h4'
  split at h4'
  · rename_i cs' t fr he
    have h5' : cs = #[Value.int .i64 m] := h5
    cases h4'
    rw [h5'] at he
    simp [World.cell?, he]
  · cases h4'
theorem rt38 : Tryz.f38.resultTypes = #[9, 9, 4] := by kernel_rfl
theorem kinds9n : kinds (cfg []).P 9 = [.str] := by kernel_rfl
theorem agg9n : isAggT (cfg []).P 9 = false := by kernel_rfl
theorem kinds4 : kinds (cfg []).P 4 = [.bool] := by kernel_rfl
theorem agg4 : isAggT (cfg []).P 4 = false := by kernel_rfl
theorem cut_ext {C : Cfg} {fn : Func} (hf : C.P.funcs[(38 : Nat)]? = some fn) (hr : fn.resultTypes = #[9, 9, 4]) (hk9 : kinds C.P 9 = [.str]) (ha9 : isAggT C.P 9 = false) (hk4 : kinds C.P 4 = [.bool]) (ha4 : isAggT C.P 4 = false)
    (hm : ∀ (w : World) (S : Nat → Prop), Tabs C w S → ∃ m, w.cell? ⟨0, 0, none⟩ = some (.int .i64 m))
    (c : ∀ (s sep : ByteArray) (m : Int) (w : World), s.size < 4294967281 → w.cell? ⟨0, 0, none⟩ = some (.int .i64 m) → Calls C.P 38 #[.string s, .string sep] w fun e w' =>
      e = .returned (.tuple #[.string ⟨(Lib.cut s.data.toList sep.data.toList).1.toArray⟩, .string ⟨(Lib.cut s.data.toList sep.data.toList).2.1.toArray⟩, .bool (Lib.cut s.data.toList sep.data.toList).2.2]) ∧ ∃ n, w' = w.drewN n) : ExtFor C 38 k_Cut.2 := by
  intro aa hp r hs w fz ρ S vs hT H hargs
  simp only [k_Cut] at hs
  split at hs
  case h_2 => cases hs
  rename_i s sep
  obtain ⟨hg, rfl⟩ := xo hs
  rw [Bool.and_eq_true] at hg
  have h1 := Nat.le_of_ble_eq_true hg.1
  have h2 : bl sep = [32] := by simpa using hg.2
  obtain ⟨m, hcm⟩ := hm w S hT
  rw [args_ss hargs]
  refine (c s sep m w (by omega) hcm).mono ?_
  rintro e w' ⟨rfl, n, rfl⟩
  have hc : Lib.cut s.data.toList sep.data.toList = (upB (bl s), (bl s).drop ((upB (bl s)).length + 1), decide ((upB (bl s)).length < (bl s).length)) := by
    show Lib.cut (bl s) (bl sep) = _
    rw [h2, cut_upB]
  have hb : Nat.blt (upB (bl s)).length s.size = decide ((upB (bl s)).length < (bl s).length) := by
    rw [bl_size, Bool.eq_iff_iff, decide_eq_true_eq, Nat.blt_eq]
  rw [hc, hb]
  have hold : ∀ k, k < w.heap.size → (w.drewN n).heap[k]? = w.heap[k]? := fun k _ => rfl
  have hmv : Mv (fun k => S k ∨ w.heap.size ≤ k) w fz (w.drewN n) fz := ⟨rfl, rfl, rfl, Nat.le_refl _, fun _ _ _ => rfl, fz_cell H.lt hold, .refl⟩
  refine ⟨_, fz, rfl, hmv, H.lt, fn, [.string (mk (upB (bl s))), .string (mk ((bl s).drop ((upB (bl s)).length + 1))), .bool (decide ((upB (bl s)).length < (bl s).length))],
    [.string (mk (upB (bl s))), .string (mk ((bl s).drop ((upB (bl s)).length + 1))), .bool (decide ((upB (bl s)).length < (bl s).length))], [], [], [], hf, rfl, ?_, ?_, ⟨rfl, rfl⟩, by simp, by simp⟩
  · rw [hr]
    refine ⟨[_], _, rfl, by rw [hk9]; rfl, by rw [hk9]; decide, by rw [ha9]; rfl, [_], _, rfl, by rw [hk9]; rfl, by rw [hk9]; decide, by rw [ha9]; rfl, [_], [], rfl, by rw [hk4]; rfl, by rw [hk4]; decide, by rw [ha4]; rfl, rfl⟩
  · rw [hr]
    simp only [List.flatMap_cons, List.flatMap_nil, hk9, hk4, List.append_nil, List.cons_append, List.nil_append, Bk, List.headD_cons, List.tail_cons]
    exact ⟨⟨_, rfl⟩, .str _, ⟨_, rfl⟩, .str _, ⟨_, rfl⟩, .bool _, trivial⟩
theorem Cut_holds : Holds k_Cut := cut_ext (C := cfg []) Tryz.func38 rt38 kinds9n agg9n kinds4 agg4 maxlen_c (fun s sep m w h1 h2 => Tryz.strings_Cut s sep m w h1 h2)
theorem raw_ok : Holds k_raw := raw_holds Cut_holds
theorem pword_ok : Holds k_pword := pword_holds Cut_holds
end Go.Ab
