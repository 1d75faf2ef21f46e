/- EvS, EvA, EvA0, EvU, EvLoop, PLex, PLx, WIx0, WIxs, EvLive, EvCard, WTw. -/
import GoSem.Dispatch
import Derived.LaidMore
import Derived.Lib.LaidTab
import Derived.Test.YtblcomejcahkdaaDoorMf
set_option linter.unusedSimpArgs false
set_option linter.unusedVariables false
section
namespace Go.Proofs.YtblcomejcahkdaaDoor.Ev
open Go

/- balustrade/tree.Sign -/
def S_tree_Sign : IFun :=
 ⟨15,
 (.seq
  (.region [⟨(some 2), (.val (.mov (.const (.str [])))), none⟩])
  (.seq
   (.seq
    (.region [⟨(some 3), (.val (.mov (.tmp 0))), none⟩,
      ⟨(some 4), (.val (.bin .lss (.tmp 3) (.const (.int .i64 0)))), none⟩,
      ⟨(some 5), (.val (.mov (.tmp 4))), none⟩,
      ⟨(some 6), (.val (.mov (.tmp 0))), (some (5, false))⟩,
      ⟨(some 7), (.val (.load none (.const (glV L_tree_signs)))), (some (5, false))⟩,
      ⟨(some 8), (.val (.len (.tmp 7))), (some (5, false))⟩,
      ⟨(some 9), (.val (.bin .geq (.tmp 6) (.tmp 8))), (some (5, false))⟩,
      ⟨(some 10), (.val (.pick (.tmp 5) (.const (.bool true)) (.tmp 9))), none⟩])
    (.cond (.tmp 10)
     (.seq
      (.region [⟨(some 2), (.val (.mov (.const (.str [])))), none⟩])
      .ret)
     .skip))
   (.seq
    (.region [⟨(some 11), (.val (.load none (.const (glV L_tree_signs)))), none⟩,
      ⟨(some 12), (.val (.mov (.tmp 0))), none⟩,
      ⟨(some 13), (.val (.iaddr 1 (.tmp 11) (.tmp 12))), none⟩,
      ⟨(some 14), (.val (.load none (.tmp 13))), none⟩,
      ⟨(some 2), (.val (.mov (.tmp 14))), none⟩])
    .ret))),
 [.tmp 2]⟩
theorem sub21 : S_tree_Sign = F_tree_Sign.sub := by kernel_rfl

/- balustrade/tree.Op -/
def S_tree_Op : IFun :=
 ⟨7,
 (.seq
  (.region [⟨(some 2), (.val (.mov (.const (.int .i64 0)))), none⟩])
  (.seq
   (.region [⟨(some 3), (.val (.load none (.const (glV L_tree_signs)))), none⟩,
     ⟨(some 4), (.val (.mov (.tmp 0))), none⟩,
     ⟨(some 5), (.call (.const (.func 41 [] [])) [(.tmp 3), (.tmp 4)]), none⟩,
     ⟨(some 6), (.val (.max [(.const (.int .i64 0)), (.tmp 5)])), none⟩,
     ⟨(some 2), (.val (.mov (.tmp 6))), none⟩])
   .ret)),
 [.tmp 2]⟩
theorem sub22 : S_tree_Op = F_tree_Op.sub := by kernel_rfl

/- balustrade/tree.name -/
def S_tree_name_l0 : ICode :=
 (.seq
  (.region [⟨(some 10), (.val (.bin .lss (.tmp 9) (.tmp 8))), none⟩])
  (.seq
   (.cond (.tmp 10)
    .skip
    (.exit 0))
   (.seq
    (.block 1
     (.seq
      (.region [⟨(some 11), (.val (.mov (.tmp 9))), none⟩,
        ⟨(some 12), (.val (.iaddr 1 (.tmp 7) (.tmp 9))), none⟩,
        ⟨(some 13), (.val (.load none (.tmp 12))), none⟩,
        ⟨(some 3), (.val (.mov (.tmp 11))), none⟩,
        ⟨(some 4), (.val (.mov (.tmp 13))), none⟩])
      (.seq
       (.region [⟨(some 14), (.val (.mov (.tmp 4))), none⟩,
         ⟨(some 15), (.val (.bin .or (.tmp 14) (.const (.int .u8 32)))), none⟩,
         ⟨(some 16), (.val (.bin .geq (.tmp 15) (.const (.int .u8 97)))), none⟩,
         ⟨(some 17), (.val (.mov (.tmp 16))), none⟩,
         ⟨(some 18), (.val (.mov (.tmp 4))), (some (17, true))⟩,
         ⟨(some 19), (.val (.bin .or (.tmp 18) (.const (.int .u8 32)))), (some (17, true))⟩,
         ⟨(some 20), (.val (.bin .leq (.tmp 19) (.const (.int .u8 122)))), (some (17, true))⟩,
         ⟨(some 21), (.val (.pick (.tmp 17) (.tmp 20) (.const (.bool false)))), none⟩,
         ⟨(some 22), (.val (.mov (.tmp 21))), none⟩,
         ⟨(some 23), (.val (.mov (.tmp 4))), (some (22, false))⟩,
         ⟨(some 24), (.val (.eq false (.prim 1) (.tmp 23) (.const (.int .u8 95)))), (some (22, false))⟩,
         ⟨(some 25), (.val (.pick (.tmp 22) (.const (.bool true)) (.tmp 24))), none⟩,
         ⟨(some 5), (.val (.mov (.tmp 25))), none⟩])
       (.seq
        (.region [⟨(some 26), (.val (.mov (.tmp 5))), none⟩,
          ⟨(some 27), (.val (.un .not (.tmp 26))), none⟩,
          ⟨(some 28), (.val (.mov (.tmp 27))), none⟩,
          ⟨(some 29), (.val (.mov (.tmp 3))), (some (28, true))⟩,
          ⟨(some 30), (.val (.eq false (.prim 1) (.tmp 29) (.const (.int .i64 0)))), (some (28, true))⟩,
          ⟨(some 31), (.val (.mov (.tmp 30))), (some (28, true))⟩,
          ⟨(some 32), (.val (.mov (.tmp 4))), (some (31, false))⟩,
          ⟨(some 33), (.val (.bin .lss (.tmp 32) (.const (.int .u8 48)))), (some (31, false))⟩,
          ⟨(some 34), (.val (.pick (.tmp 31) (.const (.bool true)) (.tmp 33))), (some (28, true))⟩,
          ⟨(some 35), (.val (.mov (.tmp 34))), (some (28, true))⟩,
          ⟨(some 36), (.val (.mov (.tmp 4))), (some (35, false))⟩,
          ⟨(some 37), (.val (.bin .gtr (.tmp 36) (.const (.int .u8 57)))), (some (35, false))⟩,
          ⟨(some 38), (.val (.pick (.tmp 35) (.const (.bool true)) (.tmp 37))), (some (28, true))⟩,
          ⟨(some 39), (.val (.pick (.tmp 28) (.tmp 38) (.const (.bool false)))), none⟩])
        (.cond (.tmp 39)
         (.seq
          (.region [⟨(some 2), (.val (.mov (.const (.bool false)))), none⟩])
          .ret)
         .skip)))))
    (.region [⟨(some 40), (.val (.bin .add (.tmp 9) (.const (.int .i64 1)))), none⟩,
      ⟨(some 9), (.val (.mov (.tmp 40))), none⟩]))))
def S_tree_name : IFun :=
 ⟨54,
 (.seq
  (.region [⟨(some 2), (.val (.mov (.const (.bool false)))), none⟩])
  (.seq
   (.seq
    (.region [⟨(some 6), (.val (.mov (.tmp 0))), none⟩,
      ⟨(some 7), (.val (.conv (.bytes 5) (.tmp 6))), none⟩,
      ⟨(some 8), (.val (.len (.tmp 7))), none⟩,
      ⟨(some 9), (.val (.mov (.const (.int .i64 0)))), none⟩])
    (.block 0
     (.loop S_tree_name_l0)))
   (.seq
    (.region [⟨(some 41), (.val (.mov (.tmp 0))), none⟩,
      ⟨(some 42), (.val (.eq true (.prim 2) (.tmp 41) (.const (.str [])))), none⟩,
      ⟨(some 43), (.val (.mov (.tmp 42))), none⟩,
      ⟨(some 44), (.val (.mov (.tmp 0))), (some (43, true))⟩,
      ⟨(some 45), (.val (.lenstr (.tmp 44))), (some (43, true))⟩,
      ⟨(some 46), (.val (.bin .leq (.tmp 45) (.const (.int .i64 32)))), (some (43, true))⟩,
      ⟨(some 47), (.val (.pick (.tmp 43) (.tmp 46) (.const (.bool false)))), none⟩,
      ⟨(some 48), (.val (.mov (.tmp 47))), none⟩,
      ⟨(some 49), (.val (.load none (.const (glV L_tree_words)))), (some (48, true))⟩,
      ⟨(some 50), (.val (.mov (.tmp 0))), (some (48, true))⟩,
      ⟨(some 51), (.call (.const (.func 62 [] [])) [(.tmp 49), (.tmp 50)]), (some (48, true))⟩,
      ⟨(some 52), (.val (.un .not (.tmp 51))), (some (48, true))⟩,
      ⟨(some 53), (.val (.pick (.tmp 48) (.tmp 52) (.const (.bool false)))), none⟩,
      ⟨(some 2), (.val (.mov (.tmp 53))), none⟩])
    .ret))),
 [.tmp 2]⟩
theorem sub52 : S_tree_name = F_tree_name.sub := by kernel_rfl

end Go.Proofs.YtblcomejcahkdaaDoor.Ev
end
section
namespace Go.Proofs.YtblcomejcahkdaaDoor.Ev
open Go
def treeS : Bt :=
  (.node 35 (.go F_r06_own) (.node 19 (.go F_r06_Height) (.node 11 (.go F_tree_Text) (.node 7 (.go F_l06_few) (.node 5 (.go F_l06_TreeTells) (.node 4 (.go F_l06_TreeParts) (.node 3 (.go F_l06_TreeAlike) .leaf .leaf) .leaf) (.node 6 (.go F_l06_TreeWords) .leaf .leaf)) (.node 9 (.go F_tree_Alike) (.node 8 (.go F_l06_works) .leaf .leaf) (.node 10 (.go F_base_SameNodes) .leaf .leaf))) (.node 15 (.go F_tree_Heights) (.node 13 (.go F_r06_Right) (.node 12 (.go F_tree_Right) .leaf .leaf) (.node 14 (.go F_r06_Part) .leaf .leaf)) (.node 17 (.go F_tree_Whole) (.node 16 (.go F_r06_Tell) .leaf .leaf) (.node 18 (.go F_r06_Whole) .leaf .leaf)))) (.node 27 (.go F_tree_Alike_1) (.node 23 (.go F_tree_Kind) (.node 21 (.go S_tree_Sign) (.node 20 (.go F_r06_Signs) .leaf .leaf) (.node 22 (.go S_tree_Op) .leaf .leaf)) (.node 25 (.go F_base_SameInts) (.node 24 (.go F_r06_Kind) .leaf .leaf) (.node 26 (.go F_slices_EqualFunc_api_Node) .leaf .leaf))) (.node 31 (.pure xItoa) (.node 29 (.go F_tree_Text_1) (.node 28 (.go F_slices_Equal_int) .leaf .leaf) (.node 30 (.go F_tree_rows) .leaf .leaf)) (.node 33 (.spec joinE) (.node 32 (.go F_strconv_FormatBool) .leaf .leaf) (.node 34 (.go F_base_HasInt) .leaf .leaf))))) (.node 54 (.go F_slices_Index_bool) (.node 43 (.go F_internal_strconv_FormatBool) (.node 39 (.go F_base_Itoa) (.node 37 (.go F_tree_has) (.node 36 (.go F_r06_kids) .leaf .leaf) (.node 38 (.go F_slices_Contains_bool) .leaf .leaf)) (.node 41 (.go F_slices_Index_string) (.node 40 (.go F_r06_word) .leaf .leaf) (.node 42 (.go F_internal_strconv_Itoa) .leaf .leaf))) (.node 50 (.go F_r06_all) (.node 48 (.go F_r05_Name) (.node 47 (.go F_r06_named) .leaf .leaf) (.node 49 (.go F_r06_exprs) .leaf .leaf)) (.node 52 (.go S_tree_name) (.node 51 (.go F_r06_Stmt) .leaf .leaf) (.node 53 (.go F_tree_is) .leaf .leaf)))) (.node 65 (.go F_internal_strconv_formatBase10) (.node 60 (.go F_r05_Word) (.node 58 (.go F_r05_Letter) (.node 55 (.go F_internal_strconv_FormatInt) .leaf .leaf) (.node 59 (.go F_r05_Digit) .leaf .leaf)) (.node 62 (.go F_slices_Contains_string) (.node 61 (.go F_r06_Expr) .leaf .leaf) (.node 63 (.go F_internal_strconv_small) .leaf .leaf))) (.node 71 (.go F_math_bits_Len64) (.node 69 (.go F_r05_Words) (.node 66 (.go F_internal_strconv_formatBits) .leaf .leaf) (.node 70 (.go F_internal_strconv_log10Pow2) .leaf .leaf)) (.node 73 (.go F_internal_strconv_isPowerOfTwo) (.node 72 (.go F_internal_strconv_bool2_int) .leaf .leaf) (.node 74 (.go F_math_bits_TrailingZeros) .leaf .leaf))))))
def A00 : Nat → Option Ent := treeS.find
theorem entA00 : ∀ f e, A00 f = some e → EntS T f e := Bt.find_of (t := treeS)
  ⟨(ent_go (F := F_r06_own) at35 (by kernel_rfl)), ⟨(ent_go (F := F_r06_Height) at19 (by kernel_rfl)), ⟨(ent_go (F := F_tree_Text) at11 (by kernel_rfl)), ⟨(ent_go (F := F_l06_few) at7 (by kernel_rfl)), ⟨(ent_go (F := F_l06_TreeTells) at5 (by kernel_rfl)), ⟨(ent_go (F := F_l06_TreeParts) at4 (by kernel_rfl)), ⟨(ent_go (F := F_l06_TreeAlike) at3 (by kernel_rfl)), trivial, trivial⟩, trivial⟩, ⟨(ent_go (F := F_l06_TreeWords) at6 (by kernel_rfl)), trivial, trivial⟩⟩, ⟨(ent_go (F := F_tree_Alike) at9 (by kernel_rfl)), ⟨(ent_go (F := F_l06_works) at8 (by kernel_rfl)), trivial, trivial⟩, ⟨(ent_go (F := F_base_SameNodes) at10 (by kernel_rfl)), trivial, trivial⟩⟩⟩, ⟨(ent_go (F := F_tree_Heights) at15 (by kernel_rfl)), ⟨(ent_go (F := F_r06_Right) at13 (by kernel_rfl)), ⟨(ent_go (F := F_tree_Right) at12 (by kernel_rfl)), trivial, trivial⟩, ⟨(ent_go (F := F_r06_Part) at14 (by kernel_rfl)), trivial, trivial⟩⟩, ⟨(ent_go (F := F_tree_Whole) at17 (by kernel_rfl)), ⟨(ent_go (F := F_r06_Tell) at16 (by kernel_rfl)), trivial, trivial⟩, ⟨(ent_go (F := F_r06_Whole) at18 (by kernel_rfl)), trivial, trivial⟩⟩⟩⟩, ⟨(ent_go (F := F_tree_Alike_1) at27 (by kernel_rfl)), ⟨(ent_go (F := F_tree_Kind) at23 (by kernel_rfl)), ⟨(ent_sub (F := F_tree_Sign) at21 (by kernel_rfl) sub21), ⟨(ent_go (F := F_r06_Signs) at20 (by kernel_rfl)), trivial, trivial⟩, ⟨(ent_sub (F := F_tree_Op) at22 (by kernel_rfl) sub22), trivial, trivial⟩⟩, ⟨(ent_go (F := F_base_SameInts) at25 (by kernel_rfl)), ⟨(ent_go (F := F_r06_Kind) at24 (by kernel_rfl)), trivial, trivial⟩, ⟨(ent_go (F := F_slices_EqualFunc_api_Node) at26 (by kernel_rfl)), trivial, trivial⟩⟩⟩, ⟨(itoa_ent at31), ⟨(ent_go (F := F_tree_Text_1) at29 (by kernel_rfl)), ⟨(ent_go (F := F_slices_Equal_int) at28 (by kernel_rfl)), trivial, trivial⟩, ⟨(ent_go (F := F_tree_rows) at30 (by kernel_rfl)), trivial, trivial⟩⟩, ⟨(join_ent at33), ⟨(ent_go (F := F_strconv_FormatBool) at32 (by kernel_rfl)), trivial, trivial⟩, ⟨(ent_go (F := F_base_HasInt) at34 (by kernel_rfl)), trivial, trivial⟩⟩⟩⟩⟩, ⟨(ent_go (F := F_slices_Index_bool) at54 (by kernel_rfl)), ⟨(ent_go (F := F_internal_strconv_FormatBool) at43 (by kernel_rfl)), ⟨(ent_go (F := F_base_Itoa) at39 (by kernel_rfl)), ⟨(ent_go (F := F_tree_has) at37 (by kernel_rfl)), ⟨(ent_go (F := F_r06_kids) at36 (by kernel_rfl)), trivial, trivial⟩, ⟨(ent_go (F := F_slices_Contains_bool) at38 (by kernel_rfl)), trivial, trivial⟩⟩, ⟨(ent_go (F := F_slices_Index_string) at41 (by kernel_rfl)), ⟨(ent_go (F := F_r06_word) at40 (by kernel_rfl)), trivial, trivial⟩, ⟨(ent_go (F := F_internal_strconv_Itoa) at42 (by kernel_rfl)), trivial, trivial⟩⟩⟩, ⟨(ent_go (F := F_r06_all) at50 (by kernel_rfl)), ⟨(ent_go (F := F_r05_Name) at48 (by kernel_rfl)), ⟨(ent_go (F := F_r06_named) at47 (by kernel_rfl)), trivial, trivial⟩, ⟨(ent_go (F := F_r06_exprs) at49 (by kernel_rfl)), trivial, trivial⟩⟩, ⟨(ent_sub (F := F_tree_name) at52 (by kernel_rfl) sub52), ⟨(ent_go (F := F_r06_Stmt) at51 (by kernel_rfl)), trivial, trivial⟩, ⟨(ent_go (F := F_tree_is) at53 (by kernel_rfl)), trivial, trivial⟩⟩⟩⟩, ⟨(ent_go (F := F_internal_strconv_formatBase10) at65 (by kernel_rfl)), ⟨(ent_go (F := F_r05_Word) at60 (by kernel_rfl)), ⟨(ent_go (F := F_r05_Letter) at58 (by kernel_rfl)), ⟨(ent_go (F := F_internal_strconv_FormatInt) at55 (by kernel_rfl)), trivial, trivial⟩, ⟨(ent_go (F := F_r05_Digit) at59 (by kernel_rfl)), trivial, trivial⟩⟩, ⟨(ent_go (F := F_slices_Contains_string) at62 (by kernel_rfl)), ⟨(ent_go (F := F_r06_Expr) at61 (by kernel_rfl)), trivial, trivial⟩, ⟨(ent_go (F := F_internal_strconv_small) at63 (by kernel_rfl)), trivial, trivial⟩⟩⟩, ⟨(ent_go (F := F_math_bits_Len64) at71 (by kernel_rfl)), ⟨(ent_go (F := F_r05_Words) at69 (by kernel_rfl)), ⟨(ent_go (F := F_internal_strconv_formatBits) at66 (by kernel_rfl)), trivial, trivial⟩, ⟨(ent_go (F := F_internal_strconv_log10Pow2) at70 (by kernel_rfl)), trivial, trivial⟩⟩, ⟨(ent_go (F := F_internal_strconv_isPowerOfTwo) at73 (by kernel_rfl)), ⟨(ent_go (F := F_internal_strconv_bool2_int) at72 (by kernel_rfl)), trivial, trivial⟩, ⟨(ent_go (F := F_math_bits_TrailingZeros) at74 (by kernel_rfl)), trivial, trivial⟩⟩⟩⟩⟩⟩
end Go.Proofs.YtblcomejcahkdaaDoor.Ev
end
section
namespace Go.Proofs.YtblcomejcahkdaaDoor.Ev
open Go
abbrev A0 : Nat → Option Ent := A00
theorem entA0 : ∀ f e, A0 f = some e → EntS T f e := entA00
end Go.Proofs.YtblcomejcahkdaaDoor.Ev
end
section
namespace Go.Proofs.YtblcomejcahkdaaDoor.Ev
open Go
theorem works8 : isTrue (evFun A0 5000 8 [] mem00) = true := by kernel_rfl
def A1 : Nat → Option Ent := up A0 8 (.pure xTrue)
theorem entA1 : ∀ f e, A1 f = some e → EntS T f e := up_ent entA0 (works_ent entA0 (F1 := F_l06_works) rfl works8)
def K (f : Nat) : Nat := bif memB f [3, 4, 5, 6, 7, 9, 10, 11, 12, 13, 16, 17, 18, 19, 21, 22, 23, 24, 25, 27, 32, 34, 35, 36, 37, 39, 40, 42, 43, 47, 48, 49, 50, 51, 52, 53, 55, 58, 59, 60, 61, 63, 70, 71, 72, 73, 74] then 1 else bif memB f [14, 15, 20, 30, 66, 69] then 2 else 0
abbrev B0 : Nat → Option Ent := A1
theorem entB0 : ∀ f e, B0 f = some e → EntS T f e := entA1
noncomputable abbrev B : Nat → Option Ent := B0
theorem entB : ∀ f e, B f = some e → EntS T f e := entB0
noncomputable abbrev U : Nat → Option Ent := UT B K
instance : HasF B0 3 F_l06_TreeAlike := ⟨rfl⟩
instance : Sort0 K 3 := ⟨rfl⟩
instance : HasF B0 4 F_l06_TreeParts := ⟨rfl⟩
instance : Sort0 K 4 := ⟨rfl⟩
instance : HasF B0 5 F_l06_TreeTells := ⟨rfl⟩
instance : Sort0 K 5 := ⟨rfl⟩
instance : HasF B0 6 F_l06_TreeWords := ⟨rfl⟩
instance : Sort0 K 6 := ⟨rfl⟩
instance : HasF B0 7 F_l06_few := ⟨rfl⟩
instance : Sort0 K 7 := ⟨rfl⟩
instance : HasF B0 9 F_tree_Alike := ⟨rfl⟩
instance : Sort0 K 9 := ⟨rfl⟩
instance : HasF B0 10 F_base_SameNodes := ⟨rfl⟩
instance : Sort0 K 10 := ⟨rfl⟩
instance : HasF B0 11 F_tree_Text := ⟨rfl⟩
instance : Sort0 K 11 := ⟨rfl⟩
instance : HasF B0 12 F_tree_Right := ⟨rfl⟩
instance : Sort0 K 12 := ⟨rfl⟩
instance : HasF B0 13 F_r06_Right := ⟨rfl⟩
instance : Sort0 K 13 := ⟨rfl⟩
instance : HasF B0 14 F_r06_Part := ⟨rfl⟩
instance : Sort1 K 14 := ⟨rfl⟩
instance : HasF B0 15 F_tree_Heights := ⟨rfl⟩
instance : Sort1 K 15 := ⟨rfl⟩
instance : HasF B0 16 F_r06_Tell := ⟨rfl⟩
instance : Sort0 K 16 := ⟨rfl⟩
instance : HasF B0 17 F_tree_Whole := ⟨rfl⟩
instance : Sort0 K 17 := ⟨rfl⟩
instance : HasF B0 18 F_r06_Whole := ⟨rfl⟩
instance : Sort0 K 18 := ⟨rfl⟩
instance : HasF B0 19 F_r06_Height := ⟨rfl⟩
instance : Sort0 K 19 := ⟨rfl⟩
instance : HasF B0 20 F_r06_Signs := ⟨rfl⟩
instance : Sort1 K 20 := ⟨rfl⟩
instance : HasF B0 21 S_tree_Sign := ⟨rfl⟩
instance : Sort0 K 21 := ⟨rfl⟩
instance : HasF B0 22 S_tree_Op := ⟨rfl⟩
instance : Sort0 K 22 := ⟨rfl⟩
instance : HasF B0 23 F_tree_Kind := ⟨rfl⟩
instance : Sort0 K 23 := ⟨rfl⟩
instance : HasF B0 24 F_r06_Kind := ⟨rfl⟩
instance : Sort0 K 24 := ⟨rfl⟩
instance : HasF B0 25 F_base_SameInts := ⟨rfl⟩
instance : Sort0 K 25 := ⟨rfl⟩
instance : HasF B0 26 F_slices_EqualFunc_api_Node := ⟨rfl⟩
instance : Sort2 K 26 := ⟨rfl⟩
instance : HasF B0 27 F_tree_Alike_1 := ⟨rfl⟩
instance : Sort0 K 27 := ⟨rfl⟩
instance : HasF B0 28 F_slices_Equal_int := ⟨rfl⟩
instance : Sort2 K 28 := ⟨rfl⟩
instance : HasF B0 29 F_tree_Text_1 := ⟨rfl⟩
instance : Sort2 K 29 := ⟨rfl⟩
instance : HasF B0 30 F_tree_rows := ⟨rfl⟩
instance : Sort1 K 30 := ⟨rfl⟩
instance : HasF B0 32 F_strconv_FormatBool := ⟨rfl⟩
instance : Sort0 K 32 := ⟨rfl⟩
instance : HasF B0 34 F_base_HasInt := ⟨rfl⟩
instance : Sort0 K 34 := ⟨rfl⟩
instance : HasF B0 35 F_r06_own := ⟨rfl⟩
instance : Sort0 K 35 := ⟨rfl⟩
instance : HasF B0 36 F_r06_kids := ⟨rfl⟩
instance : Sort0 K 36 := ⟨rfl⟩
instance : HasF B0 37 F_tree_has := ⟨rfl⟩
instance : Sort0 K 37 := ⟨rfl⟩
instance : HasF B0 38 F_slices_Contains_bool := ⟨rfl⟩
instance : Sort2 K 38 := ⟨rfl⟩
instance : HasF B0 39 F_base_Itoa := ⟨rfl⟩
instance : Sort0 K 39 := ⟨rfl⟩
instance : HasF B0 40 F_r06_word := ⟨rfl⟩
instance : Sort0 K 40 := ⟨rfl⟩
instance : HasF B0 41 F_slices_Index_string := ⟨rfl⟩
instance : Sort2 K 41 := ⟨rfl⟩
instance : HasF B0 42 F_internal_strconv_Itoa := ⟨rfl⟩
instance : Sort0 K 42 := ⟨rfl⟩
instance : HasF B0 43 F_internal_strconv_FormatBool := ⟨rfl⟩
instance : Sort0 K 43 := ⟨rfl⟩
instance : HasF B0 47 F_r06_named := ⟨rfl⟩
instance : Sort0 K 47 := ⟨rfl⟩
instance : HasF B0 48 F_r05_Name := ⟨rfl⟩
instance : Sort0 K 48 := ⟨rfl⟩
instance : HasF B0 49 F_r06_exprs := ⟨rfl⟩
instance : Sort0 K 49 := ⟨rfl⟩
instance : HasF B0 50 F_r06_all := ⟨rfl⟩
instance : Sort0 K 50 := ⟨rfl⟩
instance : HasF B0 51 F_r06_Stmt := ⟨rfl⟩
instance : Sort0 K 51 := ⟨rfl⟩
instance : HasF B0 52 S_tree_name := ⟨rfl⟩
instance : Sort0 K 52 := ⟨rfl⟩
instance : HasF B0 53 F_tree_is := ⟨rfl⟩
instance : Sort0 K 53 := ⟨rfl⟩
instance : HasF B0 54 F_slices_Index_bool := ⟨rfl⟩
instance : Sort2 K 54 := ⟨rfl⟩
instance : HasF B0 55 F_internal_strconv_FormatInt := ⟨rfl⟩
instance : Sort0 K 55 := ⟨rfl⟩
instance : HasF B0 58 F_r05_Letter := ⟨rfl⟩
instance : Sort0 K 58 := ⟨rfl⟩
instance : HasF B0 59 F_r05_Digit := ⟨rfl⟩
instance : Sort0 K 59 := ⟨rfl⟩
instance : HasF B0 60 F_r05_Word := ⟨rfl⟩
instance : Sort0 K 60 := ⟨rfl⟩
instance : HasF B0 61 F_r06_Expr := ⟨rfl⟩
instance : Sort0 K 61 := ⟨rfl⟩
instance : HasF B0 62 F_slices_Contains_string := ⟨rfl⟩
instance : Sort2 K 62 := ⟨rfl⟩
instance : HasF B0 63 F_internal_strconv_small := ⟨rfl⟩
instance : Sort0 K 63 := ⟨rfl⟩
instance : HasF B0 65 F_internal_strconv_formatBase10 := ⟨rfl⟩
instance : Sort2 K 65 := ⟨rfl⟩
instance : HasF B0 66 F_internal_strconv_formatBits := ⟨rfl⟩
instance : Sort1 K 66 := ⟨rfl⟩
instance : HasF B0 69 F_r05_Words := ⟨rfl⟩
instance : Sort1 K 69 := ⟨rfl⟩
instance : HasF B0 70 F_internal_strconv_log10Pow2 := ⟨rfl⟩
instance : Sort0 K 70 := ⟨rfl⟩
instance : HasF B0 71 F_math_bits_Len64 := ⟨rfl⟩
instance : Sort0 K 71 := ⟨rfl⟩
instance : HasF B0 72 F_internal_strconv_bool2_int := ⟨rfl⟩
instance : Sort0 K 72 := ⟨rfl⟩
instance : HasF B0 73 F_internal_strconv_isPowerOfTwo := ⟨rfl⟩
instance : Sort0 K 73 := ⟨rfl⟩
instance : HasF B0 74 F_math_bits_TrailingZeros := ⟨rfl⟩
instance : Sort0 K 74 := ⟨rfl⟩
theorem run_works8 {m : Mem} : run U 8 [] m = some (.ret (.bool true) m) := run_true (f := 8) (by unfold U UT PT; rfl)
end Go.Proofs.YtblcomejcahkdaaDoor.Ev
end
section
namespace Go.Proofs.YtblcomejcahkdaaDoor.Ev
open Go
set_option linter.unusedSimpArgs false
def LoopW {σ : Type} (I : σ → Fr → Mem → Prop) (lt : σ → Prop) (Q : Out → Prop) (o : Option Out) : Prop := match o with
  | some (.norm fr m) => ∃ s, lt s ∧ I s fr m
  | some o => Q o
  | none => False
theorem loop_w {T : Nat → Option Ent} {c : ICode} {σ : Type} (I : σ → Fr → Mem → Prop) (μ : σ → Nat) (Q : Out → Prop) (h : ∀ s fr m, I s fr m → LoopW I (fun s' => μ s' < μ s) Q (exec T c fr m)) : ∀ s fr m, I s fr m → ∃ o, exec T (.loop c) fr m = some o ∧ Q o := by
  intro s
  generalize hn : μ s = n
  induction n using Nat.strongRecOn generalizing s with
  | _ n ih =>
    intro fr m hI
    have hw := h s fr m hI
    rw [exec_loop]
    cases he : exec T c fr m with
    | none => rw [he] at hw; exact hw.elim
    | some o =>
      rw [he] at hw
      cases o with
      | norm fr1 m1 => obtain ⟨s1, h1, h2⟩ := hw; exact ih (μ s1) (by omega) s1 rfl fr1 m1 h2
      | exit id fr1 m1 => exact ⟨_, rfl, hw⟩
      | ret fr1 m1 => exact ⟨_, rfl, hw⟩
      | pan v fr1 m1 => exact ⟨_, rfl, hw⟩
section
variable {σ : Type} {I : σ → Fr → Mem → Prop} {lt : σ → Prop} {Q : Out → Prop}
theorem lw_iF {p : Prop} {a b : Option Out} (h1 : p → LoopW I lt Q a) (h2 : ¬ p → LoopW I lt Q b) : LoopW I lt Q (iF p a b) := by
  by_cases h : p
  · rw [iF_pos h]; exact h1 h
  · rw [iF_neg h]; exact h2 h
theorem lw_norm {fr : Fr} {m : Mem} (s : σ) (h : lt s) (hI : I s fr m) : LoopW I lt Q (some (.norm fr m)) := ⟨s, h, hI⟩
theorem lw_exit {id : Nat} {fr : Fr} {m : Mem} (h : Q (.exit id fr m)) : LoopW I lt Q (some (.exit id fr m)) := h
theorem lw_ret {fr : Fr} {m : Mem} (h : Q (.ret fr m)) : LoopW I lt Q (some (.ret fr m)) := h
end
/-- A loop that stands under a name, and how it ends. -/
theorem looped {T : Nat → Option Ent} {c : ICode} {fr : Fr} {m : Mem} {X : Option Out} (hX : exec T (.loop c) fr m = X) {Q : Out → Prop} (h : ∃ o, exec T (.loop c) fr m = some o ∧ Q o) : ∃ o, X = some o ∧ Q o := by
  rw [hX] at h; exact h
/-- A row that is put down, of any length. -/
def bsF (e esz len : Nat) (o : Option (List EV)) (m : Mem) : Option R1 := match o with
  | some cs => some (.val (.slice (nb m.next 0) 0 len (some len)) (ext m [.cells cs esz e false]))
  | none => none
@[congr] theorem bsF_congr {e esz len : Nat} {o o' : Option (List EV)} {m : Mem} (h : o = o') : bsF e esz len o m = bsF e esz len o' m := by rw [h]
theorem evOp_bsliceN {ρ : Opd → EV} {m : Mem} {e esz len : Nat} {zero : List EV} {parts : List (Nat × Opd)} : evOp ρ (.bslice e esz len zero parts) m = bsF e esz len (fillIn (copies len zero) (parts.map fun p => (p.1 * esz, esz, ρ p.2))) m := by
  simp only [evOp, bsF]
  cases fillIn (copies len zero) (parts.map fun p => (p.1 * esz, esz, ρ p.2)) <;> rfl
/-- A function that calls none, of given arguments. -/
def bodyV (call : Call) (n : Nat) (F : IFun) (asx : List EV) : Option EV := match evBody call n F asx mem00 with
  | some (.ret v m) => frzV m v
  | _ => none
theorem pure_closed {T : Nat → Option Ent} {K : Nat → Nat} {f : Nat} {F : IFun} [h : HasF T f F] {asx : List EV} {V : EV} (n : Nat) (hb : ∀ call : Call, bodyV call n F asx = some V) : pureR T K f asx = some V := by
  rw [pureR_eq h.has]
  have hb := hb (evFun (UT T K) n)
  unfold bodyV at hb
  cases he : evBody (evFun (UT T K) n) n F asx mem00 with
  | none => rw [he] at hb; cases hb
  | some fin =>
    rw [he] at hb
    cases fin with
    | pan v m => cases hb
    | ret v m =>
      refine bodyP_of he ?_
      have hb' : frz (freezes 7 m) m v = some V := hb
      show frzs (freezes 7 m) m [v] = some [V]
      simp only [frzs, hb']
end Go.Proofs.YtblcomejcahkdaaDoor.Ev
namespace Go.Proofs.YtblcomejcahkdaaDoor.Ev
open Go
/-- A slice of one's own, asx a row. -/
theorem Own.frz {m : Mem} {v : EV} {els : List (List EV)} {n e lo : Nat} (h : Own m v els.flatten n e lo) (hn : els.length = n) (hl : ∀ el ∈ els, el.length = e) (hp : ∀ el ∈ els, plains el = true) : ∃ nl, frzV m v = some (row nl 0 e els) := by
  rcases h.is with ⟨rfl, rfl, h3⟩ | ⟨b, cap, t, rfl, h1, h2, h3, h4⟩
  · have : els = [] := List.eq_nil_of_length_eq_zero hn
    subst this
    exact ⟨true, rfl⟩
  · subst hn
    refine ⟨false, ?_⟩
    rw [frzV_block h3 hl hp (by rcases h4 with rfl | rfl <;> simp [capOk])]
    simp [row]
end Go.Proofs.YtblcomejcahkdaaDoor.Ev
namespace Go.Proofs.YtblcomejcahkdaaDoor.Ev
end Go.Proofs.YtblcomejcahkdaaDoor.Ev
namespace Go.Proofs.YtblcomejcahkdaaDoor.Ev
/-- Laws of reckoning, all in one. -/
theorem zz0 : type_of% (And.intro (@fr00_get) <| And.intro (@fr00_defers) <| And.intro (@put_some) <| And.intro (@put_none) <| And.intro (@set_defers) <| And.intro (@eval_tmp) <| And.intro (@eval_const) <| And.intro (@ofEV_some) <| And.intro (@ofEM_some) <| And.intro (@ofM_some) <| And.intro (@thenV_some) <| And.intro (@thenC_ret) <| And.intro (@thenE_norm) <| And.intro (@thenE_ret) <| And.intro (@thenE_exit) <| And.intro (@leave_norm) <| And.intro (@leave_ret) <| And.intro (@leave_exit) <| And.intro (@selO_t) <| And.intro (@selO_f) <| And.intro (@resR_ret) <| And.intro (@resR_norm) <| And.intro (@resR_pan) <| And.intro (@eq_self.{1}) <| And.intro (@res_nil) <| And.intro (@res_tmp) <| And.intro (@one_one) <| And.intro (@one_two) <| And.intro (@one_nil) <| And.intro (@bin_add) <| And.intro (@bin_sub) <| And.intro (@bin_mul) <| And.intro (@bin_quo) <| And.intro (@bin_rem) <| And.intro (@bin_and) <| And.intro (@bin_or) <| And.intro (@bin_xor) <| And.intro (@bin_andNot) <| And.intro (@bin_lss) <| And.intro (@bin_leq) <| And.intro (@bin_gtr) <| And.intro (@bin_geq) <| And.intro (@bin_shl_i64) <| And.intro (@bin_shr_i64) <| And.intro (@bin_shl_u64) <| And.intro (@bin_shr_u64) <| And.intro (@eq_int) <| And.intro (@un_neg) <| And.intro (@cv_int) <| (@exec_seq)) :=
  And.intro (@fr00_get) <| And.intro (@fr00_defers) <| And.intro (@put_some) <| And.intro (@put_none) <| And.intro (@set_defers) <| And.intro (@eval_tmp) <| And.intro (@eval_const) <| And.intro (@ofEV_some) <| And.intro (@ofEM_some) <| And.intro (@ofM_some) <| And.intro (@thenV_some) <| And.intro (@thenC_ret) <| And.intro (@thenE_norm) <| And.intro (@thenE_ret) <| And.intro (@thenE_exit) <| And.intro (@leave_norm) <| And.intro (@leave_ret) <| And.intro (@leave_exit) <| And.intro (@selO_t) <| And.intro (@selO_f) <| And.intro (@resR_ret) <| And.intro (@resR_norm) <| And.intro (@resR_pan) <| And.intro (@eq_self.{1}) <| And.intro (@res_nil) <| And.intro (@res_tmp) <| And.intro (@one_one) <| And.intro (@one_two) <| And.intro (@one_nil) <| And.intro (@bin_add) <| And.intro (@bin_sub) <| And.intro (@bin_mul) <| And.intro (@bin_quo) <| And.intro (@bin_rem) <| And.intro (@bin_and) <| And.intro (@bin_or) <| And.intro (@bin_xor) <| And.intro (@bin_andNot) <| And.intro (@bin_lss) <| And.intro (@bin_leq) <| And.intro (@bin_gtr) <| And.intro (@bin_geq) <| And.intro (@bin_shl_i64) <| And.intro (@bin_shr_i64) <| And.intro (@bin_shl_u64) <| And.intro (@bin_shr_u64) <| And.intro (@eq_int) <| And.intro (@un_neg) <| And.intro (@cv_int) <| (@exec_seq)
/-- Laws of reckoning, all in one. -/
theorem zz1 : type_of% (And.intro (@exec_region) <| And.intro (@exec_skip) <| And.intro (@exec_ret) <| And.intro (@exec_exit) <| And.intro (@exec_block) <| And.intro (@exec_cond') <| And.intro (@oprs_nil) <| And.intro (@oprs_val) <| And.intro (@oprs_callv) <| And.intro (@Option.map_some.{0,0}) <| And.intro (@Option.map_none.{0,0}) <| And.intro (@List.map_cons.{0,0}) <| And.intro (@List.map_nil.{0,0}) <| And.intro (@bo_decide) <| And.intro (@bo_not_decide) <| And.intro (@bo_tt) <| And.intro (@bo_ff) <| And.intro (@gv_true) <| And.intro (@gv_false) <| And.intro (@cE_bo) <| And.intro (@thenG_val) <| And.intro (@thenH_ret) <| And.intro (@gV_undef) <| And.intro (@gV_bo_t) <| And.intro (@gV_bo_f) <| And.intro (@gV_gv_t) <| And.intro (@gV_gv_f) <| And.intro (@gC_undef) <| And.intro (@gC_bo_t) <| And.intro (@gC_bo_f) <| And.intro (@gC_gv_t) <| And.intro (@gC_gv_f) <| And.intro (@oprs_gval) <| And.intro (@oprs_gcallv) <| And.intro (@runV_func) <| And.intro (@List.nil_append.{0}) <| And.intro (@List.append_nil.{0}) <| And.intro (@List.cons_append.{0}) <| And.intro (@evOp_pick') <| And.intro (@pick_and) <| And.intro (@pick_or) <| And.intro (@pick_and0) <| And.intro (@pick_or0) <| And.intro (@pick_t) <| And.intro (@pick_f) <| And.intro (@un_not_bo) <| And.intro (@eq_boo) <| And.intro (@eq_str) <| And.intro (@thenE_iF) <| (@leave_iF)) :=
  And.intro (@exec_region) <| And.intro (@exec_skip) <| And.intro (@exec_ret) <| And.intro (@exec_exit) <| And.intro (@exec_block) <| And.intro (@exec_cond') <| And.intro (@oprs_nil) <| And.intro (@oprs_val) <| And.intro (@oprs_callv) <| And.intro (@Option.map_some.{0,0}) <| And.intro (@Option.map_none.{0,0}) <| And.intro (@List.map_cons.{0,0}) <| And.intro (@List.map_nil.{0,0}) <| And.intro (@bo_decide) <| And.intro (@bo_not_decide) <| And.intro (@bo_tt) <| And.intro (@bo_ff) <| And.intro (@gv_true) <| And.intro (@gv_false) <| And.intro (@cE_bo) <| And.intro (@thenG_val) <| And.intro (@thenH_ret) <| And.intro (@gV_undef) <| And.intro (@gV_bo_t) <| And.intro (@gV_bo_f) <| And.intro (@gV_gv_t) <| And.intro (@gV_gv_f) <| And.intro (@gC_undef) <| And.intro (@gC_bo_t) <| And.intro (@gC_bo_f) <| And.intro (@gC_gv_t) <| And.intro (@gC_gv_f) <| And.intro (@oprs_gval) <| And.intro (@oprs_gcallv) <| And.intro (@runV_func) <| And.intro (@List.nil_append.{0}) <| And.intro (@List.append_nil.{0}) <| And.intro (@List.cons_append.{0}) <| And.intro (@evOp_pick') <| And.intro (@pick_and) <| And.intro (@pick_or) <| And.intro (@pick_and0) <| And.intro (@pick_or0) <| And.intro (@pick_t) <| And.intro (@pick_f) <| And.intro (@un_not_bo) <| And.intro (@eq_boo) <| And.intro (@eq_str) <| And.intro (@thenE_iF) <| (@leave_iF)
/-- Laws of reckoning, all in one. -/
theorem zz2 : type_of% (And.intro (@thenV_iF) <| And.intro (@thenC_iF) <| And.intro (@resR_iF) <| And.intro (@not_true_eq_false) <| And.intro (@not_false_eq_true) <| And.intro (@and_true) <| And.intro (@true_and) <| And.intro (@and_false) <| And.intro (@false_and) <| And.intro (@or_true) <| And.intro (@true_or) <| And.intro (@or_false) <| And.intro (@false_or) <| And.intro (@Classical.not_not) <| And.intro (@Bool.false_bne) <| And.intro (@Bool.true_bne) <| And.intro (@Bool.false_xor) <| And.intro (@Bool.true_xor) <| And.intro (@evOp_mov) <| And.intro (@evOp_build) <| And.intro (@evOp_load) <| And.intro (@evOp_store) <| And.intro (@evOp_nilck) <| And.intro (@evOp_bin) <| And.intro (@evOp_eq) <| And.intro (@evOp_un) <| And.intro (@evOp_conv) <| And.intro (@evOp_iface) <| And.intro (@evOp_mkfn) <| And.intro (@evOp_mkslice) <| And.intro (@evOp_slstr) <| And.intro (@evOp_slarr) <| And.intro (@evOp_faddr) <| And.intro (@evOp_fld) <| And.intro (@evOp_iaddrArr) <| And.intro (@evOp_idxstr) <| And.intro (@evOp_idxagg) <| And.intro (@evOp_lookup) <| And.intro (@evOp_mapupd) <| And.intro (@evOp_delete) <| And.intro (@evOp_lenmap) <| And.intro (@evOp_tassert) <| And.intro (@evOp_extract) <| And.intro (@evOp_lenstr) <| And.intro (@evOp_lenarr) <| And.intro (@evOp_cap) <| And.intro (@evOp_max) <| And.intro (@evOp_min) <| And.intro (@evOp_append) <| (@evOp_copy)) :=
  And.intro (@thenV_iF) <| And.intro (@thenC_iF) <| And.intro (@resR_iF) <| And.intro (@not_true_eq_false) <| And.intro (@not_false_eq_true) <| And.intro (@and_true) <| And.intro (@true_and) <| And.intro (@and_false) <| And.intro (@false_and) <| And.intro (@or_true) <| And.intro (@true_or) <| And.intro (@or_false) <| And.intro (@false_or) <| And.intro (@Classical.not_not) <| And.intro (@Bool.false_bne) <| And.intro (@Bool.true_bne) <| And.intro (@Bool.false_xor) <| And.intro (@Bool.true_xor) <| And.intro (@evOp_mov) <| And.intro (@evOp_build) <| And.intro (@evOp_load) <| And.intro (@evOp_store) <| And.intro (@evOp_nilck) <| And.intro (@evOp_bin) <| And.intro (@evOp_eq) <| And.intro (@evOp_un) <| And.intro (@evOp_conv) <| And.intro (@evOp_iface) <| And.intro (@evOp_mkfn) <| And.intro (@evOp_mkslice) <| And.intro (@evOp_slstr) <| And.intro (@evOp_slarr) <| And.intro (@evOp_faddr) <| And.intro (@evOp_fld) <| And.intro (@evOp_iaddrArr) <| And.intro (@evOp_idxstr) <| And.intro (@evOp_idxagg) <| And.intro (@evOp_lookup) <| And.intro (@evOp_mapupd) <| And.intro (@evOp_delete) <| And.intro (@evOp_lenmap) <| And.intro (@evOp_tassert) <| And.intro (@evOp_extract) <| And.intro (@evOp_lenstr) <| And.intro (@evOp_lenarr) <| And.intro (@evOp_cap) <| And.intro (@evOp_max) <| And.intro (@evOp_min) <| And.intro (@evOp_append) <| (@evOp_copy)
/-- Laws of reckoning, all in one. -/
theorem zz3 : type_of% (And.intro (@cE_t) <| And.intro (@cE_f) <| And.intro (@gV_tt) <| And.intro (@gV_tf) <| And.intro (@gV_ft) <| And.intro (@gV_ff) <| And.intro (@gV_gt_t) <| And.intro (@gV_gt_f) <| And.intro (@gV_gf_t) <| And.intro (@gV_gf_f) <| And.intro (@gC_tt) <| And.intro (@gC_tf) <| And.intro (@gC_ft) <| And.intro (@gC_ff) <| And.intro (@gC_gt_t) <| And.intro (@gC_gt_f) <| And.intro (@gC_gf_t) <| And.intro (@gC_gf_f) <| And.intro (@pick_and_t) <| And.intro (@pick_and_f) <| And.intro (@pick_or_t) <| And.intro (@pick_or_f) <| And.intro (@eq_bo_t) <| And.intro (@eq_bo_f) <| And.intro (@eq_t_bo) <| And.intro (@eq_f_bo) <| And.intro (@eq_tt) <| And.intro (@eq_ff) <| And.intro (@eq_tf) <| And.intro (@eq_ft) <| And.intro (@un_not_t) <| And.intro (@un_not_f) <| And.intro (@selE_t) <| And.intro (@selE_f) <| And.intro (@get_set') <| And.intro (@decide_true) <| And.intro (@decide_false) <| And.intro (@Bool.not_true) <| And.intro (@Bool.not_false) <| And.intro (@cond_true.{1}) <| And.intro (@cond_false.{1}) <| And.intro (@Int.cast_ofNat_Int) <| And.intro (@new_eq) <| And.intro (@ext_ext) <| And.intro (@nb_nb) <| And.intro (@next_ext) <| And.intro (@next_set) <| And.intro (@get_set_eq) <| And.intro (@get_set_ne) <| (@get_ext_old)) :=
  And.intro (@cE_t) <| And.intro (@cE_f) <| And.intro (@gV_tt) <| And.intro (@gV_tf) <| And.intro (@gV_ft) <| And.intro (@gV_ff) <| And.intro (@gV_gt_t) <| And.intro (@gV_gt_f) <| And.intro (@gV_gf_t) <| And.intro (@gV_gf_f) <| And.intro (@gC_tt) <| And.intro (@gC_tf) <| And.intro (@gC_ft) <| And.intro (@gC_ff) <| And.intro (@gC_gt_t) <| And.intro (@gC_gt_f) <| And.intro (@gC_gf_t) <| And.intro (@gC_gf_f) <| And.intro (@pick_and_t) <| And.intro (@pick_and_f) <| And.intro (@pick_or_t) <| And.intro (@pick_or_f) <| And.intro (@eq_bo_t) <| And.intro (@eq_bo_f) <| And.intro (@eq_t_bo) <| And.intro (@eq_f_bo) <| And.intro (@eq_tt) <| And.intro (@eq_ff) <| And.intro (@eq_tf) <| And.intro (@eq_ft) <| And.intro (@un_not_t) <| And.intro (@un_not_f) <| And.intro (@selE_t) <| And.intro (@selE_f) <| And.intro (@get_set') <| And.intro (@decide_true) <| And.intro (@decide_false) <| And.intro (@Bool.not_true) <| And.intro (@Bool.not_false) <| And.intro (@cond_true.{1}) <| And.intro (@cond_false.{1}) <| And.intro (@Int.cast_ofNat_Int) <| And.intro (@new_eq) <| And.intro (@ext_ext) <| And.intro (@nb_nb) <| And.intro (@next_ext) <| And.intro (@next_set) <| And.intro (@get_set_eq) <| And.intro (@get_set_ne) <| (@get_ext_old)
/-- Laws of reckoning, all in one. -/
theorem zz4 : type_of% (And.intro (@get_ext_nb) <| And.intro (@get_ext_nb') <| And.intro (@load_ptr') <| And.intro (@ldB_cells) <| And.intro (@part_none) <| And.intro (@part_some) <| And.intro (@store_ptr') <| And.intro (@stB_some) <| And.intro (@write_eq) <| And.intro (@wrB_cells) <| And.intro (@set_ext_nb) <| And.intro (@set_ext_nb') <| And.intro (@set_ext_old) <| And.intro (@cells_int) <| And.intro (@cells_bool) <| And.intro (@cells_bo) <| And.intro (@cells_str) <| And.intro (@cells_nilptr) <| And.intro (@cells_ptr) <| And.intro (@cells_nilslice) <| And.intro (@cells_slice) <| And.intro (@cells_nilmap) <| And.intro (@cells_map) <| And.intro (@cells_nilfunc) <| And.intro (@cells_func) <| And.intro (@cells_niliface) <| And.intro (@cells_iface) <| And.intro (@cells_agg) <| And.intro (@fill_nil) <| And.intro (@fill_cons) <| And.intro (@fillB_some) <| And.intro (@evOp_box') <| And.intro (@boxE_some) <| And.intro (@evOp_alloc') <| And.intro (@evOp_mkmap') <| And.intro (@get_bump) <| And.intro (@next_bump) <| And.intro (@set_bump) <| And.intro (@load_bump) <| And.intro (@nb_lt) <| And.intro (@nb_inj) <| And.intro (@lt_nb) <| And.intro (@eq_agg) <| And.intro (@eqs_nil) <| And.intro (@eqs_cons) <| And.intro (@eqsE_some) <| And.intro (@andO_true) <| And.intro (@andO_false) <| And.intro (@andO_t) <| (@andO_f)) :=
  And.intro (@get_ext_nb) <| And.intro (@get_ext_nb') <| And.intro (@load_ptr') <| And.intro (@ldB_cells) <| And.intro (@part_none) <| And.intro (@part_some) <| And.intro (@store_ptr') <| And.intro (@stB_some) <| And.intro (@write_eq) <| And.intro (@wrB_cells) <| And.intro (@set_ext_nb) <| And.intro (@set_ext_nb') <| And.intro (@set_ext_old) <| And.intro (@cells_int) <| And.intro (@cells_bool) <| And.intro (@cells_bo) <| And.intro (@cells_str) <| And.intro (@cells_nilptr) <| And.intro (@cells_ptr) <| And.intro (@cells_nilslice) <| And.intro (@cells_slice) <| And.intro (@cells_nilmap) <| And.intro (@cells_map) <| And.intro (@cells_nilfunc) <| And.intro (@cells_func) <| And.intro (@cells_niliface) <| And.intro (@cells_iface) <| And.intro (@cells_agg) <| And.intro (@fill_nil) <| And.intro (@fill_cons) <| And.intro (@fillB_some) <| And.intro (@evOp_box') <| And.intro (@boxE_some) <| And.intro (@evOp_alloc') <| And.intro (@evOp_mkmap') <| And.intro (@get_bump) <| And.intro (@next_bump) <| And.intro (@set_bump) <| And.intro (@load_bump) <| And.intro (@nb_lt) <| And.intro (@nb_inj) <| And.intro (@lt_nb) <| And.intro (@eq_agg) <| And.intro (@eqs_nil) <| And.intro (@eqs_cons) <| And.intro (@eqsE_some) <| And.intro (@andO_true) <| And.intro (@andO_false) <| And.intro (@andO_t) <| (@andO_f)
/-- Laws of reckoning, all in one. -/
theorem zz5 : type_of% (And.intro (@andO_dec) <| And.intro (@res_cell) <| And.intro (@rcE_some) <| And.intro (@List.length_cons.{0}) <| And.intro (@List.length_nil.{0}) <| And.intro (@Nat.zero_add) <| And.intro (@Nat.add_zero) <| And.intro (@List.take_succ_cons.{0}) <| And.intro (@List.take_zero.{0}) <| And.intro (@List.take_nil.{0}) <| And.intro (@List.drop_succ_cons.{0}) <| And.intro (@List.drop_zero.{0}) <| And.intro (@List.drop_nil.{0}) <| And.intro (@List.getElem?_cons_zero.{0}) <| And.intro (@List.getElem?_cons_succ.{0}) <| And.intro (@List.getElem?_nil.{0}) <| And.intro (@Option.getD_some.{0}) <| And.intro (@List.set_cons_zero.{0}) <| And.intro (@List.set_cons_succ.{0}) <| And.intro (@Nat.le_refl) <| And.intro (@ne_eq.{1}) <| And.intro (@Bool.or_true) <| And.intro (@Bool.or_false) <| And.intro (@Bool.true_or) <| And.intro (@Bool.false_or) <| And.intro (@Bool.and_true) <| And.intro (@Bool.true_and) <| And.intro (@Bool.and_false) <| And.intro (@Bool.false_and) <| And.intro (@eq_pn) <| And.intro (@eq_np) <| And.intro (@eq_nn) <| And.intro (@eq_sn) <| And.intro (@eq_ns) <| And.intro (@eq_nsns) <| And.intro (@evOp_bslice1) <| And.intro (@evOp_bslice0) <| (@bsE_some)) :=
  And.intro (@andO_dec) <| And.intro (@res_cell) <| And.intro (@rcE_some) <| And.intro (@List.length_cons.{0}) <| And.intro (@List.length_nil.{0}) <| And.intro (@Nat.zero_add) <| And.intro (@Nat.add_zero) <| And.intro (@List.take_succ_cons.{0}) <| And.intro (@List.take_zero.{0}) <| And.intro (@List.take_nil.{0}) <| And.intro (@List.drop_succ_cons.{0}) <| And.intro (@List.drop_zero.{0}) <| And.intro (@List.drop_nil.{0}) <| And.intro (@List.getElem?_cons_zero.{0}) <| And.intro (@List.getElem?_cons_succ.{0}) <| And.intro (@List.getElem?_nil.{0}) <| And.intro (@Option.getD_some.{0}) <| And.intro (@List.set_cons_zero.{0}) <| And.intro (@List.set_cons_succ.{0}) <| And.intro (@Nat.le_refl) <| And.intro (@ne_eq.{1}) <| And.intro (@Bool.or_true) <| And.intro (@Bool.or_false) <| And.intro (@Bool.true_or) <| And.intro (@Bool.false_or) <| And.intro (@Bool.and_true) <| And.intro (@Bool.true_and) <| And.intro (@Bool.and_false) <| And.intro (@Bool.false_and) <| And.intro (@eq_pn) <| And.intro (@eq_np) <| And.intro (@eq_nn) <| And.intro (@eq_sn) <| And.intro (@eq_ns) <| And.intro (@eq_nsns) <| And.intro (@evOp_bslice1) <| And.intro (@evOp_bslice0) <| (@bsE_some)
/-- Laws of reckoning, all in one. -/
theorem zz6 : type_of% (And.intro (@srt_mov) <| And.intro (@srt_alloc) <| And.intro (@srt_box) <| And.intro (@srt_build) <| And.intro (@srt_bslice) <| And.intro (@srt_store) <| And.intro (@srt_nilck) <| And.intro (@srt_bin) <| And.intro (@srt_eq) <| And.intro (@srt_un) <| And.intro (@srt_iface) <| And.intro (@srt_mkfn) <| And.intro (@srt_mkmap) <| And.intro (@srt_mkslice) <| And.intro (@srt_slstr) <| And.intro (@srt_slsl) <| And.intro (@srt_slarr) <| And.intro (@srt_faddr) <| And.intro (@srt_fld) <| And.intro (@srt_iaddr) <| And.intro (@srt_iaddrArr) <| And.intro (@srt_idxstr) <| And.intro (@srt_idxagg) <| And.intro (@srt_lookup) <| And.intro (@srt_mapupd) <| And.intro (@srt_delete) <| And.intro (@srt_lenmap) <| And.intro (@srt_tassert) <| And.intro (@srt_extract) <| And.intro (@srt_len) <| And.intro (@srt_lenstr) <| And.intro (@srt_lenarr) <| And.intro (@srt_cap) <| And.intro (@srt_max) <| And.intro (@srt_min) <| And.intro (@srt_append) <| And.intro (@srt_copy) <| And.intro (@srt_pick) <| And.intro (@srt_cv_int) <| And.intro (@srt_cv_same) <| And.intro (@srt_cv_bytes) <| And.intro (@srt_cv_text) <| And.intro (@exec_draw') <| And.intro (@drw_nil) <| And.intro (@thenL_some) <| And.intro (@ifB_true) <| And.intro (@drw_v0) <| And.intro (@drw_v1) <| And.intro (@thenD_ret) <| (@chk_nil)) :=
  And.intro (@srt_mov) <| And.intro (@srt_alloc) <| And.intro (@srt_box) <| And.intro (@srt_build) <| And.intro (@srt_bslice) <| And.intro (@srt_store) <| And.intro (@srt_nilck) <| And.intro (@srt_bin) <| And.intro (@srt_eq) <| And.intro (@srt_un) <| And.intro (@srt_iface) <| And.intro (@srt_mkfn) <| And.intro (@srt_mkmap) <| And.intro (@srt_mkslice) <| And.intro (@srt_slstr) <| And.intro (@srt_slsl) <| And.intro (@srt_slarr) <| And.intro (@srt_faddr) <| And.intro (@srt_fld) <| And.intro (@srt_iaddr) <| And.intro (@srt_iaddrArr) <| And.intro (@srt_idxstr) <| And.intro (@srt_idxagg) <| And.intro (@srt_lookup) <| And.intro (@srt_mapupd) <| And.intro (@srt_delete) <| And.intro (@srt_lenmap) <| And.intro (@srt_tassert) <| And.intro (@srt_extract) <| And.intro (@srt_len) <| And.intro (@srt_lenstr) <| And.intro (@srt_lenarr) <| And.intro (@srt_cap) <| And.intro (@srt_max) <| And.intro (@srt_min) <| And.intro (@srt_append) <| And.intro (@srt_copy) <| And.intro (@srt_pick) <| And.intro (@srt_cv_int) <| And.intro (@srt_cv_same) <| And.intro (@srt_cv_bytes) <| And.intro (@srt_cv_text) <| And.intro (@exec_draw') <| And.intro (@drw_nil) <| And.intro (@thenL_some) <| And.intro (@ifB_true) <| And.intro (@drw_v0) <| And.intro (@drw_v1) <| And.intro (@thenD_ret) <| (@chk_nil)
/-- Laws of reckoning, all in one. -/
theorem zz7 : type_of% (And.intro (@chk_cons) <| And.intro (@snap_nil) <| And.intro (@snap_cons) <| And.intro (@pair_nil) <| And.intro (@pair_cons) <| And.intro (@stands_eq) <| And.intro (@standE_self) <| And.intro (@noL_nil) <| And.intro (@noL_cons) <| And.intro (@noA_nil) <| And.intro (@noA_cons) <| And.intro (@drw_load0) <| And.intro (@drw_load1) <| And.intro (@drw_v30) <| And.intro (@drw_v31) <| And.intro (@drw_call0) <| And.intro (@drw_call1) <| And.intro (@retO_ret) <| And.intro (@drw_gv0) <| And.intro (@drw_gv1) <| And.intro (@drw_gld0) <| And.intro (@drw_gld1) <| And.intro (@drw_gv30) <| And.intro (@drw_gv31) <| And.intro (@drw_gcall0) <| And.intro (@drw_gcall1) <| And.intro (@gE_bo_t) <| And.intro (@gE_bo_f) <| And.intro (@gE_tt) <| And.intro (@gE_tf) <| And.intro (@gE_ft) <| And.intro (@gE_ff) <| And.intro (@gE_undef) <| And.intro (@gE_gv_t) <| And.intro (@gE_gv_f) <| And.intro (@gE_gt_t) <| And.intro (@gE_gt_f) <| And.intro (@gE_gf_t) <| And.intro (@gE_gf_f) <| And.intro (@told_bool) <| And.intro (@told_bo) <| And.intro (@told_int) <| And.intro (@told_str) <| And.intro (@told_nilptr) <| And.intro (@told_ptr) <| And.intro (@told_nilslice) <| And.intro (@told_slice) <| And.intro (@told_nilmap) <| And.intro (@told_map) <| (@told_nilfunc)) :=
  And.intro (@chk_cons) <| And.intro (@snap_nil) <| And.intro (@snap_cons) <| And.intro (@pair_nil) <| And.intro (@pair_cons) <| And.intro (@stands_eq) <| And.intro (@standE_self) <| And.intro (@noL_nil) <| And.intro (@noL_cons) <| And.intro (@noA_nil) <| And.intro (@noA_cons) <| And.intro (@drw_load0) <| And.intro (@drw_load1) <| And.intro (@drw_v30) <| And.intro (@drw_v31) <| And.intro (@drw_call0) <| And.intro (@drw_call1) <| And.intro (@retO_ret) <| And.intro (@drw_gv0) <| And.intro (@drw_gv1) <| And.intro (@drw_gld0) <| And.intro (@drw_gld1) <| And.intro (@drw_gv30) <| And.intro (@drw_gv31) <| And.intro (@drw_gcall0) <| And.intro (@drw_gcall1) <| And.intro (@gE_bo_t) <| And.intro (@gE_bo_f) <| And.intro (@gE_tt) <| And.intro (@gE_tf) <| And.intro (@gE_ft) <| And.intro (@gE_ff) <| And.intro (@gE_undef) <| And.intro (@gE_gv_t) <| And.intro (@gE_gv_f) <| And.intro (@gE_gt_t) <| And.intro (@gE_gt_f) <| And.intro (@gE_gf_t) <| And.intro (@gE_gf_f) <| And.intro (@told_bool) <| And.intro (@told_bo) <| And.intro (@told_int) <| And.intro (@told_str) <| And.intro (@told_nilptr) <| And.intro (@told_ptr) <| And.intro (@told_nilslice) <| And.intro (@told_slice) <| And.intro (@told_nilmap) <| And.intro (@told_map) <| (@told_nilfunc)
/-- Laws of reckoning, all in one. -/
theorem zz8 : type_of% (And.intro (@told_niliface) <| And.intro (@told_undef) <| And.intro (@told_agg) <| And.intro (@told_tuple) <| And.intro (@told_iface) <| And.intro (@told_func) <| And.intro (@tolds_nil) <| And.intro (@tolds_cons) <| And.intro (@ifF_ptr) <| And.intro (@ifF_fptr) <| And.intro (@old_nil) <| And.intro (@old_cons) <| And.intro (@Nat.beq_refl) <| And.intro (@evOp_len') <| And.intro (@lenE_nil) <| And.intro (@lenE_slice) <| And.intro (@lenE_fz) <| And.intro (@lenE_row) <| And.intro (@optI_some) <| And.intro (@evOp_iaddr') <| And.intro (@iaddrE_slice) <| And.intro (@iaddrE_fz) <| And.intro (@iaddrE_row) <| And.intro (@ldF_some) <| And.intro (@load_fptr) <| And.intro (@source_fz) <| And.intro (@source_row) <| And.intro (@cells_fz) <| And.intro (@cells_row) <| And.intro (@cells_fptr) <| And.intro (@eq_fn) <| And.intro (@eq_nf) <| And.intro (@eq_rn) <| And.intro (@part2_some) <| And.intro (@consO_some) <| And.intro (@frzL_nil) <| And.intro (@frzL_cons) <| And.intro (@frzV_undef) <| And.intro (@frzV_bool) <| And.intro (@frzV_bo) <| And.intro (@frzV_int) <| And.intro (@frzV_str) <| And.intro (@frzV_nilslice) <| And.intro (@frzV_nilptr) <| And.intro (@frzV_niliface) <| And.intro (@frzV_fz) <| And.intro (@frzV_row) <| And.intro (@frzV_agg) <| And.intro (@frzV_tuple) <| (@closed_row)) :=
  And.intro (@told_niliface) <| And.intro (@told_undef) <| And.intro (@told_agg) <| And.intro (@told_tuple) <| And.intro (@told_iface) <| And.intro (@told_func) <| And.intro (@tolds_nil) <| And.intro (@tolds_cons) <| And.intro (@ifF_ptr) <| And.intro (@ifF_fptr) <| And.intro (@old_nil) <| And.intro (@old_cons) <| And.intro (@Nat.beq_refl) <| And.intro (@evOp_len') <| And.intro (@lenE_nil) <| And.intro (@lenE_slice) <| And.intro (@lenE_fz) <| And.intro (@lenE_row) <| And.intro (@optI_some) <| And.intro (@evOp_iaddr') <| And.intro (@iaddrE_slice) <| And.intro (@iaddrE_fz) <| And.intro (@iaddrE_row) <| And.intro (@ldF_some) <| And.intro (@load_fptr) <| And.intro (@source_fz) <| And.intro (@source_row) <| And.intro (@cells_fz) <| And.intro (@cells_row) <| And.intro (@cells_fptr) <| And.intro (@eq_fn) <| And.intro (@eq_nf) <| And.intro (@eq_rn) <| And.intro (@part2_some) <| And.intro (@consO_some) <| And.intro (@frzL_nil) <| And.intro (@frzL_cons) <| And.intro (@frzV_undef) <| And.intro (@frzV_bool) <| And.intro (@frzV_bo) <| And.intro (@frzV_int) <| And.intro (@frzV_str) <| And.intro (@frzV_nilslice) <| And.intro (@frzV_nilptr) <| And.intro (@frzV_niliface) <| And.intro (@frzV_fz) <| And.intro (@frzV_row) <| And.intro (@frzV_agg) <| And.intro (@frzV_tuple) <| (@closed_row)
/-- Laws of reckoning, all in one. -/
theorem zz9 : type_of% (And.intro (@closeds_nil) <| And.intro (@closeds_cons) <| And.intro (@closed_fz) <| And.intro (@closed_int) <| And.intro (@closed_bool) <| And.intro (@closed_bo) <| And.intro (@closed_str) <| And.intro (@closed_nilslice) <| And.intro (@closed_agg) <| And.intro (@closed_tuple) <| And.intro (@tagArgs_nil) <| And.intro (@tagArgs_cons) <| And.intro (@tagV_fz) <| And.intro (@tagV_row) <| And.intro (@tagV_int) <| And.intro (@tagV_bool) <| And.intro (@tagV_bo) <| And.intro (@tagV_str) <| And.intro (@tagV_nilslice) <| And.intro (@tagV_agg) <| And.intro (@p0E_some) <| And.intro (@p1E_some) <| And.intro (@callO_some) <| And.intro (@run_p0) <| And.intro (@run_p1) <| And.intro (@frR_ret) <| And.intro (@frR_iF) <| And.intro (@Flat_int) <| And.intro (@Flat_bool) <| And.intro (@Flat_bo) <| And.intro (@Flat_str) <| And.intro (@Flat_agg) <| And.intro (@Flat_tuple) <| And.intro (@flats_nil) <| And.intro (@flats_cons) <| And.intro (@Bool.and_self) <| And.intro (@List.getElem?_map.{0,0}) <| And.intro (@List.length_map.{0,0}) <| And.intro (@evOp_slsl') <| And.intro (@slslF_nil) <| And.intro (@slslF_some) <| And.intro (@slslF_none) <| And.intro (@slB_cells) <| And.intro (@slslF_row) <| And.intro (@slslF_fz) <| (@List.isEmpty_nil.{0})) :=
  And.intro (@closeds_nil) <| And.intro (@closeds_cons) <| And.intro (@closed_fz) <| And.intro (@closed_int) <| And.intro (@closed_bool) <| And.intro (@closed_bo) <| And.intro (@closed_str) <| And.intro (@closed_nilslice) <| And.intro (@closed_agg) <| And.intro (@closed_tuple) <| And.intro (@tagArgs_nil) <| And.intro (@tagArgs_cons) <| And.intro (@tagV_fz) <| And.intro (@tagV_row) <| And.intro (@tagV_int) <| And.intro (@tagV_bool) <| And.intro (@tagV_bo) <| And.intro (@tagV_str) <| And.intro (@tagV_nilslice) <| And.intro (@tagV_agg) <| And.intro (@p0E_some) <| And.intro (@p1E_some) <| And.intro (@callO_some) <| And.intro (@run_p0) <| And.intro (@run_p1) <| And.intro (@frR_ret) <| And.intro (@frR_iF) <| And.intro (@Flat_int) <| And.intro (@Flat_bool) <| And.intro (@Flat_bo) <| And.intro (@Flat_str) <| And.intro (@Flat_agg) <| And.intro (@Flat_tuple) <| And.intro (@flats_nil) <| And.intro (@flats_cons) <| And.intro (@Bool.and_self) <| And.intro (@List.getElem?_map.{0,0}) <| And.intro (@List.length_map.{0,0}) <| And.intro (@evOp_slsl') <| And.intro (@slslF_nil) <| And.intro (@slslF_some) <| And.intro (@slslF_none) <| And.intro (@slB_cells) <| And.intro (@slslF_row) <| And.intro (@slslF_fz) <| (@List.isEmpty_nil.{0})

end Go.Proofs.YtblcomejcahkdaaDoor.Ev
end
section
namespace Go.Proofs.YtblcomejcahkdaaDoor.Ev
def LetterP (n : Int) : Prop := (97 ≤ n ∧ n ≤ 122 ∨ 65 ≤ n ∧ n ≤ 90) ∨ n = 95
def DigitP (n : Int) : Prop := 48 ≤ n ∧ n ≤ 57
def BlankP (n : Int) : Prop := ((n = 32 ∨ n = 9) ∨ n = 10) ∨ n = 13
instance (n : Int) : Decidable (LetterP n) := by unfold LetterP; infer_instance
instance (n : Int) : Decidable (DigitP n) := by unfold DigitP; infer_instance
instance (n : Int) : Decidable (BlankP n) := by unfold BlankP; infer_instance
abbrev Txt := List UInt8
abbrev cI (c : UInt8) : Int := (c.toNat : Int)
def wordsL : List Txt := [[102, 110], [118, 97, 114], [105, 102], [101, 108, 115, 101], [119, 104, 105, 108, 101], [102, 111, 114], [98, 114, 101, 97, 107], [99, 111, 110, 116, 105, 110, 117, 101], [114, 101, 116, 117, 114, 110], [112, 114, 105, 110, 116], [108, 101, 110], [110, 101, 119], [116, 114, 117, 101], [102, 97, 108, 115, 101], [110, 105, 108], [105, 110, 116], [98, 111, 111, 108], [97, 114, 114]]
def twoL : List Txt := [[124, 124], [38, 38], [61, 61], [33, 61], [60, 61], [62, 61], [43, 37], [45, 37], [42, 37]]
def oneL : Txt := [60, 62, 43, 45, 42, 47, 37, 33, 61, 40, 41, 123, 125, 91, 93, 44, 59]
/-- How many bytes of blanks and remarks a text begins with, within a remark or not. -/
def skipF : Bool → Txt → Nat
  | _, [] => 0
  | r, c :: s => let r1 := if cI c = 10 then false else if cI c = 35 then true else r
    if r1 = false ∧ ¬ BlankP (cI c) then 0 else 1 + skipF r1 s
/-- A number's digits, behind others. -/
def numF : Nat → Txt → Option Nat
  | n, [] => some n
  | n, c :: s => if 922337203685477580 < n ∨ n = 922337203685477580 ∧ 7 < c.toNat - 48 then none else numF (10 * n + (c.toNat - 48)) s
def signF (s : Txt) : Nat := if 2 ≤ s.length ∧ s.take 2 ∈ twoL then 2 else if ∃ c ∈ oneL, s[0]? = some c then 1 else 0
/-- Of how many bytes a text begins that are of a sort. -/
def lead (p : Int → Prop) [DecidablePred p] : Txt → Nat
  | [] => 0
  | c :: s => if p (cI c) then 1 + lead p s else 0
def nameP (s : Txt) : Prop := (∀ (i : Nat) (c : UInt8), s[i]? = some c → LetterP (cI c) ∨ i ≠ 0 ∧ DigitP (cI c)) ∧ 0 < s.length ∧ s.length ≤ 32 ∧ s ∉ wordsL
/-- How many bytes the word has that a text begins with. -/
def wordF : Txt → Nat
  | [] => 0
  | c :: s => if LetterP (cI c) then 1 + lead (fun n => LetterP n ∨ DigitP n) s else 0
structure Tok where
  kind : Nat
  text : Txt
  n : Nat
  pos : Nat
deriving DecidableEq
inductive Res (α : Type) where
  | ok (a : α)
  | bad (e p : Nat)
def Res.map {α β : Type} (f : α → β) : Res α → Res β
  | .ok a => .ok (f a)
  | .bad e p => .bad e p
def Res.bind {α β : Type} (x : Res α) (f : α → Res β) : Res β := match x with
  | .ok a => f a
  | .bad e p => .bad e p
def numT (k : Txt) (p : Nat) : Res Tok := match numF 0 k with
  | some n => .ok ⟨2, k, n, p⟩
  | none => .bad 7 p
/-- The token that a text begins with, which stands at a place. -/
def oneF (s : Txt) (p : Nat) : Res Tok :=
  if ∃ c ∈ s[0]?, DigitP (cI c) then
    numT (s.take (lead DigitP s)) p
  else
    let k := wordF s
    if 0 < k ∧ s.take k ∈ wordsL then .ok ⟨3, s.take k, 0, p⟩
    else if 32 < k then .bad 3 p
    else if 0 < k then .ok ⟨1, s.take k, 0, p⟩
    else if signF s = 0 then .bad 6 p
    else .ok ⟨4, s.take (signF s), 0, p⟩
/-- Tokens from a place on, at which none is skipped any more. -/
def toksF : Nat → Txt → Nat → Res (List Tok)
  | 0, _, p => .bad 0 p
  | _ + 1, [], _ => .ok []
  | k + 1, s, p => match oneF s p with
    | .bad e q => .bad e q
    | .ok t =>
      let r := s.drop t.text.length
      let j := skipF false r
      (toksF k (r.drop j) (p + t.text.length + j)).map (t :: ·)
def lexF (s : Txt) : Res (List Tok) :=
  if 65536 < s.length then .bad 3 0
  else (toksF (s.length + 1) (s.drop (skipF false s)) (skipF false s)).map (· ++ [⟨0, [], 0, s.length⟩])
end Go.Proofs.YtblcomejcahkdaaDoor.Ev
end
section
namespace Go.Proofs.YtblcomejcahkdaaDoor.Ev
open Go
set_option linter.unusedSimpArgs false
set_option linter.unusedVariables false
set_option maxHeartbeats 4000000

theorem wrap_succ {i : Nat} (h : i < 9223372036854775807) : IntKind.i64.wrap ((i : Int) + 1) = ((i + 1 : Nat) : Int) := by rw [wrap_i64 (by omega) (by omega)]; omega

def Tok.cells (t : Tok) : List EV := [.int .i64 (t.kind : Int), .str t.text, .int .i64 (t.n : Int), .int .i64 (t.pos : Int)]

def toks (l : List Tok) : List (List EV) := l.map Tok.cells

def lexV : Res (List Tok) → EV
  | .ok l => .tuple [.fz 0 4 (toks l), .agg [.int .i64 0, .int .i64 0]]
  | .bad e p => .tuple [.nilslice, .agg [.int .i64 (e : Int), .int .i64 (p : Int)]]

theorem Res.map_map {α β γ : Type} (f : α → β) (g : β → γ) (x : Res α) : (x.map f).map g = x.map (fun a => g (f a)) := by cases x <;> rfl

def Tok.move (d : Nat) (t : Tok) : Tok := { t with pos := t.pos + d }

def textF (p : Nat) (s : Txt) : Res (List Tok) := toksF (s.length + 1) (s.drop (skipF false s)) (p + skipF false s)

end Go.Proofs.YtblcomejcahkdaaDoor.Ev
end
section
namespace Go.Proofs.YtblcomejcahkdaaDoor.Ev
open Go
set_option linter.unusedSimpArgs false
set_option linter.unusedVariables false
set_option maxRecDepth 10000
set_option maxHeartbeats 4000000
theorem strs1_get {l : List Txt} {i : Nat} : (strs1 l)[i]? = (l[i]?).map fun s => [.str s] := by unfold strs1; rw [List.getElem?_map]
theorem strs1_len {l : List Txt} : (strs1 l).length = l.length := by unfold strs1; rw [List.length_map]
theorem load_gl {l : List Txt} {m : Mem} : m.load none (glV l) = some (.fz 0 1 (strs1 l)) := rfl
def ints1 (l : List Int) : List (List EV) := l.map fun s => [.int .i64 s]
/-- Where a value stands in a row first. -/
def ixN {α : Type} [DecidableEq α] (x : α) : List α → Nat
  | [] => 0
  | a :: l => if a = x then 0 else ixN x l + 1
theorem ixN_at {α : Type} [DecidableEq α] {x : α} : ∀ {l : List α} {i : Nat}, x ∉ l.take i → l[i]? = some x → ixN x l = i
  | [], i, _, h => by simp at h
  | a :: l, 0, _, h => by simp only [List.getElem?_cons_zero, Option.some.injEq] at h; simp only [ixN, if_pos h]
  | a :: l, i + 1, hn, h => by
    simp only [List.take_succ_cons, List.mem_cons, not_or] at hn
    simp only [ixN, if_neg (Ne.symm hn.1), ixN_at hn.2 (by simpa using h)]
def ixL {α : Type} [DecidableEq α] (x : α) (l : List α) : Int := if x ∈ l then (ixN x l : Int) else -1
end Go.Proofs.YtblcomejcahkdaaDoor.Ev
end
section
namespace Go.Proofs.YtblcomejcahkdaaDoor.Ev
open Go
set_option linter.unusedSimpArgs false
set_option linter.unusedVariables false
set_option maxRecDepth 10000
set_option maxHeartbeats 4000000
theorem stringidx_loop {l : List Txt} {x : Txt} (hl : l.length < 1000000000) {tg : Nat} {m0 : Mem} {fr : Fr} (h0 : fr.get 0 = .fz tg 1 (strs1 l)) (h1 : fr.get 1 = .str x) (h7 : fr.get 7 = .int .i64 (l.length : Int)) (h8 : fr.get 8 = .int .i64 0) (hd : fr.defers = []) :
    ∃ o, exec U (.loop F_slices_Index_string_l0) fr m0 = some o ∧ ((x ∈ l ∧ ∃ fr', o = .ret fr' m0 ∧ fr'.get 4 = .int .i64 (ixN x l : Int) ∧ fr'.defers = []) ∨ (x ∉ l ∧ ∃ fr', o = .exit 0 fr' m0 ∧ fr'.defers = [])) := by
  refine loop_w (σ := Nat) (fun i fr m => m = m0 ∧ i ≤ l.length ∧ x ∉ l.take i ∧ fr.get 0 = .fz tg 1 (strs1 l) ∧ fr.get 1 = .str x ∧ fr.get 7 = .int .i64 (l.length : Int) ∧ fr.get 8 = .int .i64 (i : Int) ∧ fr.defers = []) (fun i => l.length - i) _ ?_ 0 fr m0 ⟨rfl, Nat.zero_le _, by simp, h0, h1, h7, h8, hd⟩
  rintro i fr m ⟨rfl, hi, hn, h0, h1, h7, h8, hd⟩
  generalize hX : exec U F_slices_Index_string_l0 fr m = X
  by_cases hlt : i < l.length
  · have hc : (i : Int) < (l.length : Int) := by omega
    have hg : l[i]? = some l[i] := List.getElem?_eq_getElem hlt
    have hw1 := wrap_succ (i := i) (by omega)
    simp +contextual -implicitDefEqProofs (maxSteps := 1000000) (maxDischargeDepth := 8) only [F_slices_Index_string_l0, h0, h1, h7, h8, hd, hc, hg, hlt, hw1, idx_cast, strs1_get, strs1_len, zz0, zz1, zz2, zz3, zz4, zz5, zz6, zz7, zz8, zz9, argsF, reduceIte, reduceCtorEq, Nat.reduceEqDiff, Nat.reduceBEq, Nat.reduceAdd, Int.reduceLT, Int.reduceLE, Int.reduceEq, Int.reduceToNat, Int.reduceNeg, Nat.reduceLeDiff, Int.reducePow, implies_true, UInt8.reduceToNat, Int.reduceSub, Int.reduceAdd, Nat.reduceLT, Nat.reduceMul, Nat.reduceSub, Nat.reduceBNe] at hX
    subst hX
    refine lw_iF (fun he => lw_ret (.inl ⟨by rw [he]; exact List.getElem_mem hlt, _, rfl, ?_, by simp only [hd, get_set', selE_t, selE_f, Nat.reduceBEq, set_defers, fr00_get, fr00_defers, put_some, put_none ]⟩)) (fun he => lw_norm (i + 1) (by omega) ⟨rfl, hlt, ?_, by simp only [h0, get_set', selE_t, selE_f, Nat.reduceBEq, set_defers, fr00_get, fr00_defers, put_some, put_none ], by simp only [h1, get_set', selE_t, selE_f, Nat.reduceBEq, set_defers, fr00_get, fr00_defers, put_some, put_none ], by simp only [h7, get_set', selE_t, selE_f, Nat.reduceBEq, set_defers, fr00_get, fr00_defers, put_some, put_none ], by simp only [get_set', selE_t, selE_f, Nat.reduceBEq, set_defers, fr00_get, fr00_defers, put_some, put_none ], by simp only [hd, get_set', selE_t, selE_f, Nat.reduceBEq, set_defers, fr00_get, fr00_defers, put_some, put_none ]⟩)
    · have : ixN x l = i := ixN_at hn (by rw [hg, he])
      rw [this]; simp only [get_set', selE_t, selE_f, Nat.reduceBEq, set_defers, fr00_get, fr00_defers, put_some, put_none ]
    · rw [List.take_succ_eq_append_getElem hlt, List.mem_append]
      rintro (q | q)
      · exact hn q
      · exact he (List.mem_singleton.1 q)
  · have hc : ¬ ((i : Int) < (l.length : Int)) := by omega
    simp +contextual -implicitDefEqProofs (maxSteps := 1000000) (maxDischargeDepth := 8) only [F_slices_Index_string_l0, h0, h7, h8, hd, hc, zz0, zz1, zz2, zz3, zz4, zz5, zz6, zz7, zz8, zz9, argsF, reduceIte, reduceCtorEq, Nat.reduceEqDiff, Nat.reduceBEq, Nat.reduceAdd, Int.reduceLT, Int.reduceLE, Int.reduceEq, Int.reduceToNat, Int.reduceNeg, Nat.reduceLeDiff, Int.reducePow, implies_true, UInt8.reduceToNat, Int.reduceSub, Int.reduceAdd, Nat.reduceLT, Nat.reduceMul, Nat.reduceSub, Nat.reduceBNe] at hX
    subst hX
    have : l.take i = l := List.take_of_length_le (by omega)
    rw [this] at hn
    exact lw_exit (.inr ⟨hn, _, rfl, by simp only [hd, get_set', selE_t, selE_f, Nat.reduceBEq, set_defers, fr00_get, fr00_defers, put_some, put_none ]⟩)
theorem stringidx_run {l : List Txt} {x : Txt} (hl : l.length < 1000000000) {tg : Nat} {m : Mem} : run U n_slices_Index_string [.fz tg 1 (strs1 l), .str x] m = some (.ret (.int .i64 (ixL x l)) m) := by
  rw [run_p2 (by simp [F_slices_Index_string])]
  generalize hL : exec (UT B K) (ICode.loop F_slices_Index_string_l0) = L
  simp +contextual -implicitDefEqProofs (maxSteps := 1000000) (maxDischargeDepth := 8) only [F_slices_Index_string, strs1_len, zz0, zz1, zz2, zz3, zz4, zz5, zz6, zz7, zz8, zz9, argsF, reduceIte, reduceCtorEq, Nat.reduceEqDiff, Nat.reduceBEq, Nat.reduceAdd, Int.reduceLT, Int.reduceLE, Int.reduceEq, Int.reduceToNat, Int.reduceNeg, Nat.reduceLeDiff, Int.reducePow, implies_true, UInt8.reduceToNat, Int.reduceSub, Int.reduceAdd, Nat.reduceLT, Nat.reduceMul, Nat.reduceSub, Nat.reduceBNe]
  subst hL
  generalize hX : exec _ (.loop F_slices_Index_string_l0) _ _ = X
  obtain ⟨o, rfl, h⟩ := looped hX (stringidx_loop (l := l) (x := x) hl (tg := tg) (by simp only [get_set', selE_t, selE_f, Nat.reduceBEq, set_defers, fr00_get, fr00_defers, put_some, put_none ]) (by simp only [get_set', selE_t, selE_f, Nat.reduceBEq, set_defers, fr00_get, fr00_defers, put_some, put_none ]) (by simp only [get_set', selE_t, selE_f, Nat.reduceBEq, set_defers, fr00_get, fr00_defers, put_some, put_none ]) (by simp only [get_set', selE_t, selE_f, Nat.reduceBEq, set_defers, fr00_get, fr00_defers, put_some, put_none ]) (by simp only [get_set', selE_t, selE_f, Nat.reduceBEq, set_defers, fr00_get, fr00_defers, put_some, put_none ]))
  rcases h with ⟨h, fr', rfl, h4, hd⟩ | ⟨h, fr', rfl, hd⟩
  · simp +contextual -implicitDefEqProofs (maxSteps := 1000000) (maxDischargeDepth := 8) only [h, h4, hd, ixL, zz0, zz1, zz2, zz3, zz4, zz5, zz6, zz7, zz8, zz9, argsF, reduceIte, reduceCtorEq, Nat.reduceEqDiff, Nat.reduceBEq, Nat.reduceAdd, Int.reduceLT, Int.reduceLE, Int.reduceEq, Int.reduceToNat, Int.reduceNeg, Nat.reduceLeDiff, Int.reducePow, implies_true, UInt8.reduceToNat, Int.reduceSub, Int.reduceAdd, Nat.reduceLT, Nat.reduceMul, Nat.reduceSub, Nat.reduceBNe]
  · simp +contextual -implicitDefEqProofs (maxSteps := 1000000) (maxDischargeDepth := 8) only [h, hd, ixL, zz0, zz1, zz2, zz3, zz4, zz5, zz6, zz7, zz8, zz9, argsF, reduceIte, reduceCtorEq, Nat.reduceEqDiff, Nat.reduceBEq, Nat.reduceAdd, Int.reduceLT, Int.reduceLE, Int.reduceEq, Int.reduceToNat, Int.reduceNeg, Nat.reduceLeDiff, Int.reducePow, implies_true, UInt8.reduceToNat, Int.reduceSub, Int.reduceAdd, Nat.reduceLT, Nat.reduceMul, Nat.reduceSub, Nat.reduceBNe]
end Go.Proofs.YtblcomejcahkdaaDoor.Ev
end
section
namespace Go.Proofs.YtblcomejcahkdaaDoor.Ev
open Go
/-- What stands in memory stands below its end. -/
def Stands (m : Mem) : Prop := ∀ b cs e t ro, m.get b = .cells cs e t ro → b < m.next
theorem in_live {n0 : Nat} {bs : List InB} (hl : (∀ p ∈ globs, p.1 < n0) ∧ ∀ g l, tabl g = some l → g < n0) : Stands (inMem n0 bs) := by
  intro b cs e t ro h
  refine Classical.byContradiction fun q => ?_
  have : (inMem n0 bs).next = n0 + bs.length := rfl
  rw [inMem_dead hl (by omega)] at h
  cases h
end Go.Proofs.YtblcomejcahkdaaDoor.Ev
end
section
namespace Go.Proofs.YtblcomejcahkdaaDoor.Ev
open Go Go.Deep
/-- A row of texts, asx the world holds it. -/
def GFact (w : World) (g : Nat) (l : List (List UInt8)) : Prop :=
  ∃ (arr : Array Value) (e : TypeId) (fz : Nat × Nat) (blk off cap : Nat) (arr2 : Array Value) (e2 : TypeId) (fz2 : Nat × Nat),
    w.heap[g]? = some (.cells arr e fz) ∧ arr.toList = [.slice (some ⟨blk, off, none⟩) l.length cap] ∧ l.length ≤ cap ∧
    w.heap[blk]? = some (.cells arr2 e2 fz2) ∧ off + l.length ≤ arr2.size ∧ ∀ (j : Nat) (s : List UInt8), l[j]? = some s → ∃ b, arr2[off + j]? = some (.string b) ∧ b.data.toList = s
theorem gfact_of {H : Type} {enc : TypeId × Value → H} {P : Program} {w : World} {base : Nat} {sp : Nat → Bool} {held : Bool} {g : Nat} {t e : TypeId} {name : String} {l : List (List UInt8)} {fuel : Nat} {p : List MemPlace} {cs : Array Value} {D : DataW H} (hne : l ≠ []) (hD : D = .slice (l.map fun s => .lit (.string s)) [])
    (hg : P.globalNamed name = some g) (ht : P.underlying t = some (.slice e)) (hc : P.cellsOf e = 1) (he : P.underlying e = some .string) (hv : w.var? P name = some cs)
    (hd : DataW.trod enc P w base sp held fuel t cs.toList = some (D, p)) : GFact w g l := by
  subst hD
  obtain ⟨a, cap, h1, h2, h3⟩ := open_row ht hc hd
  rw [List.length_map] at h1 h2
  have hcell : ∀ i s, l[i]? = some s → ∃ b, w.cell? (a.add i) = some (.string b) ∧ b.data.toList = s := by
    intro i s hs
    obtain ⟨v, n, q, hv1, hv2⟩ := h3 i (.lit (.string s)) (by rw [List.getElem?_map, hs]; rfl)
    obtain ⟨b, hb, hx, _⟩ := DataW.trod_string he hv2
    simp only [List.cons.injEq, and_true] at hb
    subst hb
    refine ⟨b, hv1, ?_⟩
    simp only [Prod.mk.injEq, DataW.lit.injEq, Lit.string.injEq] at hx
    exact hx.1.symm
  have hpos : 0 < l.length := List.length_pos_iff.2 hne
  obtain ⟨blk, off, arr2, e2, fz2, rfl, harr⟩ : ∃ blk off arr ty fz, a = ⟨blk, off, none⟩ ∧ w.heap[blk]? = some (.cells arr ty fz) := by
    obtain ⟨b, hv, _⟩ := hcell 0 l[0] (List.getElem?_eq_getElem hpos)
    have hv : w.cell? a = some (.string b) := hv
    obtain ⟨blk, off, spot⟩ := a
    unfold World.cell? at hv
    split at hv
    · rename_i c t z hh
      cases spot with
      | none => exact ⟨blk, off, c, t, z, rfl, hh⟩
      | some x => simp at hv
    · cases hv
  have hat : ∀ n, w.cell? ⟨blk, off + n, none⟩ = arr2[off + n]? := fun n => by unfold World.cell?; simp [harr]
  have hget : ∀ (j : Nat) (s : List UInt8), l[j]? = some s → ∃ b, arr2[off + j]? = some (.string b) ∧ b.data.toList = s := by
    intro j s hs
    obtain ⟨b, hb, hbs⟩ := hcell j s hs
    rw [lit_add, hat] at hb
    exact ⟨b, hb, hbs⟩
  have hle : off + l.length ≤ arr2.size := by
    obtain ⟨b, hb, _⟩ := hget (l.length - 1) _ (List.getElem?_eq_getElem (by omega))
    have := (Array.getElem?_eq_some_iff.1 hb).1
    omega
  unfold World.var? at hv
  rw [hg] at hv
  simp only [Option.bind_some] at hv
  split at hv
  · rename_i c t' z hh
    cases hv
    exact ⟨_, _, _, blk, off, cap, arr2, e2, fz2, hh, h1, h2, harr, hle, hget⟩
  · cases hv
def Back (w : World) (g : Nat) (l : List (List UInt8)) (B : InB) : Prop := B.cs = l.map .str ∧ B.esz = 1 ∧
  (∃ (arr : Array Value) (e : TypeId) (fz : Nat × Nat) (cap : Nat), w.heap[g]? = some (.cells arr e fz) ∧ arr.toList = [.slice (some ⟨B.blk, B.off, none⟩) l.length cap] ∧ l.length ≤ cap) ∧
  ∃ (arr : Array Value) (e : TypeId) (fz : Nat × Nat), w.heap[B.blk]? = some (.cells arr e fz) ∧ arr.size = B.total ∧ B.off + l.length ≤ B.total ∧ ∀ (j : Nat) (s : List UInt8), l[j]? = some s → ∃ b, arr[B.off + j]? = some (.string b) ∧ b.data.toList = s
theorem backs {w : World} : ∀ gs : List (Nat × List (List UInt8)), (∀ p ∈ gs, GFact w p.1 p.2) → ∃ bk : List InB, bk.length = gs.length ∧ ∀ (j g : Nat) (l : List (List UInt8)), gs[j]? = some (g, l) → ∃ B, bk[j]? = some B ∧ Back w g l B
  | [], _ => ⟨[], rfl, fun j g l h => by simp at h⟩
  | (g, l) :: gs, h => by
    obtain ⟨bk, h1, h2⟩ := backs gs fun p hp => h p (by simp [hp])
    obtain ⟨arr, e, fz, blk, off, cap, arr2, e2, fz2, a1, a2, a3, a4, a5, a6⟩ := h (g, l) (by simp)
    refine ⟨⟨blk, off, arr2.size, 1, l.map .str⟩ :: bk, by simp [h1], fun j g' l' hj => ?_⟩
    cases j with
    | zero =>
      simp only [List.getElem?_cons_zero, Option.some.injEq, Prod.mk.injEq] at hj
      obtain ⟨rfl, rfl⟩ := hj
      exact ⟨_, rfl, rfl, rfl, ⟨arr, e, fz, cap, a1, a2, a3⟩, arr2, e2, fz2, a4, rfl, a5, a6⟩
    | succ j => exact h2 j g' l' (by simpa using hj)
theorem tfact_of {H : Type} {enc : TypeId × Value → H} {P : Program} {w : World} {base : Nat} {sp : Nat → Bool} {held : Bool} {g : Nat} {t e : TypeId} {n : Nat} {name : String} {l : List Int} {fuel : Nat} {p : List MemPlace} {cs : Array Value} {D : DataW H} (hgn : glob g = none) (hD : D = Go.Lib.tabData .u64 l)
    (hg : P.globalNamed name = some g) (ht : P.underlying t = some (.array n e)) (he : P.underlying e = some (.int .u64)) (hce : P.cellsOf e = 1) (hct : P.cellsOf t = n) (hv : w.var? P name = some cs)
    (hd : DataW.trod enc P w base sp held fuel t cs.toList = some (D, p)) : TFact w g l := by
  subst hD
  have h := Go.Lib.cells_of_tab ht he hce hct hd
  unfold World.var? at hv
  rw [hg] at hv
  simp only [Option.bind_some] at hv
  split at hv
  · rename_i c t' z hh
    cases hv
    exact ⟨hgn, _, _, _, hh, h⟩
  · cases hv
/-- All arguments, and the package variables, in a memory that is only read. -/
theorem args_card {w : World} {n0 : Nat} {shs : List Sh} {vs : List Value} (hg : (∀ p ∈ globs, GFact w p.1 p.2) ∧ ∀ g l, tabl g = some l → TFact w g l) (hl : (∀ p ∈ globs, p.1 < n0) ∧ ∀ g l, tabl g = some l → g < n0) (h : DecVs w n0 shs vs) :
    ∃ (bs : List InB) (es : List EV) (ds : List Dt), InOk w n0 bs ∧ GlobIn w n0 bs ∧ VRs (inRen n0 bs) es vs ∧ RepVs (inMem n0 bs) shs es ds := by
  obtain ⟨bk, hb1, hb2⟩ := backs globs hg.1
  obtain ⟨k, ds, h⟩ := h
  obtain ⟨es, bs, h1, h2⟩ := h bk.length
  obtain ⟨c1, c2, c3⟩ := h2 (bk ++ bs) (fun i _ => by rw [List.getElem?_append_right (by omega)]; congr 1; omega)
  refine ⟨bk ++ bs, es, ds, fun i B hB => ?_, ⟨hl, hg.2, fun j g l hj => ?_⟩, c1, c3⟩
  · by_cases hi : i < bk.length
    · rw [List.getElem?_append_left hi] at hB
      obtain ⟨⟨g, l⟩, hgl⟩ : ∃ p, globs[i]? = some p := ⟨_, List.getElem?_eq_getElem (by omega)⟩
      obtain ⟨B', hB', q1, q2, q3, arr, e, fz, q4, q5, q6, q7⟩ := hb2 i g l hgl
      rw [hB] at hB'; cases hB'
      refine ⟨arr, e, fz, q4, q5, by rw [q1, List.length_map]; exact q6, fun j v hj => ?_⟩
      rw [q1, List.getElem?_map] at hj
      obtain ⟨s, hs, rfl⟩ := Option.map_eq_some_iff.1 hj
      obtain ⟨b, hb, rfl⟩ := q7 j s hs
      exact ⟨_, hb, .str _, rfl⟩
    · rw [List.getElem?_append_right (by omega)] at hB
      exact c2 _ B hB
  · obtain ⟨B, hB, q1, q2, ⟨arr, e, fz, cap, q3, q4, q5⟩, _⟩ := hb2 j g l hj
    have hlt := (List.getElem?_eq_some_iff.1 hB).1
    have hB' : (bk ++ bs)[j]? = some B := by rw [List.getElem?_append_left hlt]; exact hB
    have hsz : arr.size = 1 := by rw [← Array.length_toList, q4]; rfl
    exact ⟨⟨arr, e, fz, _, q3, hsz, by rw [← Array.getElem?_toList, q4]; rfl, in_slice hB' rfl rfl q5 fun _ => rfl, rfl⟩, B, hB', q1, q2⟩
theorem strs1_flat (l : List (List UInt8)) : (strs1 l).flatten = l.map .str := by
  induction l with
  | nil => rfl
  | cons s l ih => show (([EV.str s] :: strs1 l).flatten) = _; rw [List.flatten_cons, ih]; rfl
theorem glob_still {w : World} {n0 : Nat} {bs : List InB} (h : GlobIn w n0 bs) : GlobOk (still (inMem n0 bs)) := by
  refine ⟨fun g l hg => ?_, fun g l hg => ?_⟩
  case refine_2 =>
    have hlt := h.1.2 g l hg
    have hn : (inMem n0 bs).next = n0 + bs.length := rfl
    show (if g < (inMem n0 bs).next then some ((inMem n0 bs).get g) else none) = _
    rw [if_pos (by rw [hn]; omega), inMem_low hlt]
    have hf := gfind_glob (b := g) globs 0
    have hgn := (h.2.1 g l hg).1
    unfold glob at hgn
    rw [hgn] at hf
    rw [Option.map_eq_none_iff.1 hf, hg]
    rfl
  have hf := gfind_glob (b := g) globs 0
  unfold glob at hg
  rw [hg] at hf
  obtain ⟨⟨p, l'⟩, hp, hl'⟩ := Option.map_eq_some_iff.1 hf
  simp only at hl'
  subst hl'
  have h2 := (gfind_at _ _ hp).2
  rw [Nat.sub_zero] at h2
  have hlt := h.1.1 _ (List.mem_of_getElem? h2)
  obtain ⟨_, B, hB, q1, q2⟩ := h.2.2 p g l' h2
  have m1 : (inMem n0 bs).get g = .cells [.slice (n0 + p) 0 l'.length none] 1 0 true := by rw [inMem_low hlt, hp]; rfl
  have m2 : (inMem n0 bs).get (n0 + p) = .cells (l'.map .str) 1 0 true := by rw [inMem_at hB, q1, q2]
  have hpl := (List.getElem?_eq_some_iff.1 hB).1
  have hn : (inMem n0 bs).next = n0 + bs.length := rfl
  have s1 : (still (inMem n0 bs)).sta g = some (.cells [.slice (n0 + p) 0 l'.length none] 1 0 true) := by
    show (if g < (inMem n0 bs).next then some ((inMem n0 bs).get g) else none) = _
    rw [if_pos (by rw [hn]; omega), m1]
  have s2 : (still (inMem n0 bs)).sta (n0 + p) = some (.cells (l'.map .str) 1 0 true) := by
    show (if n0 + p < (inMem n0 bs).next then some ((inMem n0 bs).get (n0 + p)) else none) = _
    rw [if_pos (by rw [hn]; omega), m2]
  have self : ∀ (θ : Tie) (x : List (List UInt8)), SVs θ (x.map .str) (x.map .str) := fun θ x => by
    induction x with
    | nil => exact .nil
    | cons s x ih => exact .cons (.str s) ih
  have hlen : (strs1 l').length = l'.length := by simp [strs1]
  refine .fptr (.mk (off := 0) s1 (by simp) (by simp) (.cons ?_ .nil)) (by simp) (by simp)
  have := SV.fz (θ := (still (inMem n0 bs)).low) (t := 0) (esz := 1) (els := strs1 l') (b := n0 + p) (off := 0) (cap := none) (.mk s2 (by simp [strs1]) (by simp [hlen]) (by
    rw [strs1_flat, List.drop_zero, hlen, Nat.mul_one, List.take_of_length_le (by simp)]; exact self _ l')) (.inl rfl) (fun c hc => by cases hc)
  rw [hlen] at this
  exact this
end Go.Proofs.YtblcomejcahkdaaDoor.Ev
end
section
namespace Go.Proofs.YtblcomejcahkdaaDoor.Ev
open Go
set_option linter.unusedSimpArgs false
set_option linter.unusedVariables false
set_option maxRecDepth 10000
set_option maxHeartbeats 4000000
def opsL : List Txt := [[124, 124], [38, 38], [61, 61], [33, 61], [60], [60, 61], [62], [62, 61], [43], [45], [43, 37], [45, 37], [42], [47], [37], [42, 37]]
theorem ref_signs : pureR B K n_r06_Signs [] = some (.fz 0 1 (strs1 opsL)) := pure_closed 10 fun call => by kernel_rfl
theorem signs_opsL : L_tree_signs = [] :: opsL := rfl
/-- An operator's sign. -/
def signT (op : Int) : Txt := if 1 ≤ op ∧ op ≤ 16 then opsL.getD (op - 1).toNat [] else []
theorem tree_sign {op : Int} (h1 : -9223372036854775808 ≤ op) (h2 : op < 9223372036854775808) : pureR B K n_tree_Sign [.int .i64 op] = some (.str (signT op)) := by
  rw [pure_at (by simp [S_tree_Sign])]
  have hl := fun m => load_gl (l := [] :: opsL) (m := m)
  have hlen : (strs1 ([] :: opsL)).length = 17 := rfl
  by_cases a : op < 0
  · have e : signT op = [] := if_neg (by omega)
    rw [e]
    simp +contextual -implicitDefEqProofs (maxSteps := 1000000) (maxDischargeDepth := 8) only [S_tree_Sign, a, zz0, zz1, zz2, zz3, zz4, zz5, zz6, zz7, zz8, zz9, argsF, reduceIte, reduceCtorEq, Nat.reduceEqDiff, Nat.reduceBEq, Nat.reduceAdd, Int.reduceLT, Int.reduceLE, Int.reduceEq, Int.reduceToNat, Int.reduceNeg, Nat.reduceLeDiff, Int.reducePow, implies_true, UInt8.reduceToNat, Int.reduceSub, Int.reduceAdd, Nat.reduceLT, Nat.reduceMul, Nat.reduceSub, Nat.reduceBNe]
  · by_cases b : 17 ≤ op
    · have e : signT op = [] := if_neg (by omega)
      rw [e]
      simp +contextual -implicitDefEqProofs (maxSteps := 1000000) (maxDischargeDepth := 8) only [S_tree_Sign, a, signs_opsL, hl, hlen, b, zz0, zz1, zz2, zz3, zz4, zz5, zz6, zz7, zz8, zz9, argsF, reduceIte, reduceCtorEq, Nat.reduceEqDiff, Nat.reduceBEq, Nat.reduceAdd, Int.reduceLT, Int.reduceLE, Int.reduceEq, Int.reduceToNat, Int.reduceNeg, Nat.reduceLeDiff, Int.reducePow, implies_true, UInt8.reduceToNat, Int.reduceSub, Int.reduceAdd, Nat.reduceLT, Nat.reduceMul, Nat.reduceSub, Nat.reduceBNe]
    · obtain ⟨n, rfl⟩ : ∃ n : Nat, op = (n : Int) := ⟨op.toNat, by omega⟩
      have hn : n < 17 := by omega
      have hi : idx 17 (.int .i64 (n : Int)) = some n := idx_cast hn
      have hg : ([] :: opsL)[n]? = some (signT (n : Int)) := by
        have : ∀ n : Nat, n < 17 → ([] :: opsL)[n]? = some (signT (n : Int)) := by decide
        exact this n hn
      simp +contextual -implicitDefEqProofs (maxSteps := 1000000) (maxDischargeDepth := 8) only [S_tree_Sign, a, signs_opsL, hl, hlen, b, hi, strs1_get, hg, zz0, zz1, zz2, zz3, zz4, zz5, zz6, zz7, zz8, zz9, argsF, reduceIte, reduceCtorEq, Nat.reduceEqDiff, Nat.reduceBEq, Nat.reduceAdd, Int.reduceLT, Int.reduceLE, Int.reduceEq, Int.reduceToNat, Int.reduceNeg, Nat.reduceLeDiff, Int.reducePow, implies_true, UInt8.reduceToNat, Int.reduceSub, Int.reduceAdd, Nat.reduceLT, Nat.reduceMul, Nat.reduceSub, Nat.reduceBNe]
theorem tree_op {s : Txt} : pureR B K n_tree_Op [.str s] = some (.int .i64 (max 0 (ixL s ([] :: opsL)))) := by
  rw [pure_at (by simp [S_tree_Op])]
  have hl := fun m => load_gl (l := [] :: opsL) (m := m)
  have hx := fun m => stringidx_run (l := [] :: opsL) (x := s) (by decide) (tg := 0) (m := m)
  have hm : evMax [.int .i64 0, .int .i64 (ixL s ([] :: opsL))] = some (.int .i64 (max 0 (ixL s ([] :: opsL)))) := by
    simp only [evMax, maxFrom, Nat.beq_refl, cond_true]
    congr 2
    split <;> omega
  simp +contextual -implicitDefEqProofs (maxSteps := 1000000) (maxDischargeDepth := 8) only [S_tree_Op, signs_opsL, hl, hx, hm, zz0, zz1, zz2, zz3, zz4, zz5, zz6, zz7, zz8, zz9, argsF, reduceIte, reduceCtorEq, Nat.reduceEqDiff, Nat.reduceBEq, Nat.reduceAdd, Int.reduceLT, Int.reduceLE, Int.reduceEq, Int.reduceToNat, Int.reduceNeg, Nat.reduceLeDiff, Int.reducePow, implies_true, UInt8.reduceToNat, Int.reduceSub, Int.reduceAdd, Nat.reduceLT, Nat.reduceMul, Nat.reduceSub, Nat.reduceBNe]
def kindT (k : Int) : Txt := if k = 1 then [105, 110, 116] else if k = 2 then [98, 111, 111, 108] else if k = 3 then [97, 114, 114] else []
theorem tree_kind {k : Int} : pureR B K n_tree_Kind [.int .i64 k] = some (.str (kindT k)) := by
  rw [pure_at (by simp [F_tree_Kind])]
  unfold kindT
  by_cases a : k = 1
  · subst a; simp +contextual -implicitDefEqProofs (maxSteps := 1000000) (maxDischargeDepth := 8) only [F_tree_Kind, zz0, zz1, zz2, zz3, zz4, zz5, zz6, zz7, zz8, zz9, argsF, reduceIte, reduceCtorEq, Nat.reduceEqDiff, Nat.reduceBEq, Nat.reduceAdd, Int.reduceLT, Int.reduceLE, Int.reduceEq, Int.reduceToNat, Int.reduceNeg, Nat.reduceLeDiff, Int.reducePow, implies_true, UInt8.reduceToNat, Int.reduceSub, Int.reduceAdd, Nat.reduceLT, Nat.reduceMul, Nat.reduceSub, Nat.reduceBNe]
  · by_cases b : k = 2
    · subst b; simp +contextual -implicitDefEqProofs (maxSteps := 1000000) (maxDischargeDepth := 8) only [F_tree_Kind, zz0, zz1, zz2, zz3, zz4, zz5, zz6, zz7, zz8, zz9, argsF, reduceIte, reduceCtorEq, Nat.reduceEqDiff, Nat.reduceBEq, Nat.reduceAdd, Int.reduceLT, Int.reduceLE, Int.reduceEq, Int.reduceToNat, Int.reduceNeg, Nat.reduceLeDiff, Int.reducePow, implies_true, UInt8.reduceToNat, Int.reduceSub, Int.reduceAdd, Nat.reduceLT, Nat.reduceMul, Nat.reduceSub, Nat.reduceBNe]
    · by_cases c : k = 3
      · subst c; simp +contextual -implicitDefEqProofs (maxSteps := 1000000) (maxDischargeDepth := 8) only [F_tree_Kind, zz0, zz1, zz2, zz3, zz4, zz5, zz6, zz7, zz8, zz9, argsF, reduceIte, reduceCtorEq, Nat.reduceEqDiff, Nat.reduceBEq, Nat.reduceAdd, Int.reduceLT, Int.reduceLE, Int.reduceEq, Int.reduceToNat, Int.reduceNeg, Nat.reduceLeDiff, Int.reducePow, implies_true, UInt8.reduceToNat, Int.reduceSub, Int.reduceAdd, Nat.reduceLT, Nat.reduceMul, Nat.reduceSub, Nat.reduceBNe]
      · simp +contextual -implicitDefEqProofs (maxSteps := 1000000) (maxDischargeDepth := 8) only [F_tree_Kind, a, b, c, if_false, zz0, zz1, zz2, zz3, zz4, zz5, zz6, zz7, zz8, zz9, argsF, reduceIte, reduceCtorEq, Nat.reduceEqDiff, Nat.reduceBEq, Nat.reduceAdd, Int.reduceLT, Int.reduceLE, Int.reduceEq, Int.reduceToNat, Int.reduceNeg, Nat.reduceLeDiff, Int.reducePow, implies_true, UInt8.reduceToNat, Int.reduceSub, Int.reduceAdd, Nat.reduceLT, Nat.reduceMul, Nat.reduceSub, Nat.reduceBNe]
theorem bs_kinds {fr : Fr} {M : Mem} : evOp fr.eval (.bslice t_string 1 3 [.str []] [(0, .const (.str [105, 110, 116])), (1, .const (.str [98, 111, 111, 108])), (2, .const (.str [97, 114, 114]))]) M = some (.val (.slice (nb M.next 0) 0 3 (some 3)) (Ev.ext M [.cells [.str [105, 110, 116], .str [98, 111, 111, 108], .str [97, 114, 114]] 1 t_string false])) := by
  rw [evOp_bsliceN]
  rfl
theorem ref_kind {k : Int} (h1 : -9223372036854775808 ≤ k) (h2 : k < 9223372036854775808) : pureR B K n_r06_Kind [.int .i64 k] = some (.str (kindT k)) := by
  rw [pure_at (by simp [F_r06_Kind])]
  by_cases a : k < 1
  · have e : kindT k = [] := by unfold kindT; rw [if_neg (by omega), if_neg (by omega), if_neg (by omega)]
    rw [e]
    simp +contextual -implicitDefEqProofs (maxSteps := 1000000) (maxDischargeDepth := 8) only [F_r06_Kind, bs_kinds, a, zz0, zz1, zz2, zz3, zz4, zz5, zz6, zz7, zz8, zz9, argsF, reduceIte, reduceCtorEq, Nat.reduceEqDiff, Nat.reduceBEq, Nat.reduceAdd, Int.reduceLT, Int.reduceLE, Int.reduceEq, Int.reduceToNat, Int.reduceNeg, Nat.reduceLeDiff, Int.reducePow, implies_true, UInt8.reduceToNat, Int.reduceSub, Int.reduceAdd, Nat.reduceLT, Nat.reduceMul, Nat.reduceSub, Nat.reduceBNe]
  · by_cases b : 3 < k
    · have e : kindT k = [] := by unfold kindT; rw [if_neg (by omega), if_neg (by omega), if_neg (by omega)]
      rw [e]
      simp +contextual -implicitDefEqProofs (maxSteps := 1000000) (maxDischargeDepth := 8) only [F_r06_Kind, bs_kinds, a, b, zz0, zz1, zz2, zz3, zz4, zz5, zz6, zz7, zz8, zz9, argsF, reduceIte, reduceCtorEq, Nat.reduceEqDiff, Nat.reduceBEq, Nat.reduceAdd, Int.reduceLT, Int.reduceLE, Int.reduceEq, Int.reduceToNat, Int.reduceNeg, Nat.reduceLeDiff, Int.reducePow, implies_true, UInt8.reduceToNat, Int.reduceSub, Int.reduceAdd, Nat.reduceLT, Nat.reduceMul, Nat.reduceSub, Nat.reduceBNe]
    · have hk : k = 1 ∨ k = 2 ∨ k = 3 := by omega
      have i0 : idx 3 (.int .i64 0) = some 0 := idx_cast (i := 0) (by decide)
      have i1 : idx 3 (.int .i64 1) = some 1 := idx_cast (i := 1) (by decide)
      have i2 : idx 3 (.int .i64 2) = some 2 := idx_cast (i := 2) (by decide)
      have w0 : IntKind.i64.wrap 0 = 0 := by decide
      have w1 : IntKind.i64.wrap 1 = 1 := by decide
      have w2 : IntKind.i64.wrap 2 = 2 := by decide
      rcases hk with rfl | rfl | rfl
      · have e : kindT 1 = [105, 110, 116] := rfl
        rw [e]
        simp +contextual -implicitDefEqProofs (maxSteps := 1000000) (maxDischargeDepth := 8) only [F_r06_Kind, bs_kinds, i0, w0, Nat.mul_one, zz0, zz1, zz2, zz3, zz4, zz5, zz6, zz7, zz8, zz9, argsF, reduceIte, reduceCtorEq, Nat.reduceEqDiff, Nat.reduceBEq, Nat.reduceAdd, Int.reduceLT, Int.reduceLE, Int.reduceEq, Int.reduceToNat, Int.reduceNeg, Nat.reduceLeDiff, Int.reducePow, implies_true, UInt8.reduceToNat, Int.reduceSub, Int.reduceAdd, Nat.reduceLT, Nat.reduceMul, Nat.reduceSub, Nat.reduceBNe]
      · have e : kindT 2 = [98, 111, 111, 108] := rfl
        rw [e]
        simp +contextual -implicitDefEqProofs (maxSteps := 1000000) (maxDischargeDepth := 8) only [F_r06_Kind, bs_kinds, i1, w1, Nat.mul_one, zz0, zz1, zz2, zz3, zz4, zz5, zz6, zz7, zz8, zz9, argsF, reduceIte, reduceCtorEq, Nat.reduceEqDiff, Nat.reduceBEq, Nat.reduceAdd, Int.reduceLT, Int.reduceLE, Int.reduceEq, Int.reduceToNat, Int.reduceNeg, Nat.reduceLeDiff, Int.reducePow, implies_true, UInt8.reduceToNat, Int.reduceSub, Int.reduceAdd, Nat.reduceLT, Nat.reduceMul, Nat.reduceSub, Nat.reduceBNe]
      · have e : kindT 3 = [97, 114, 114] := rfl
        rw [e]
        simp +contextual -implicitDefEqProofs (maxSteps := 1000000) (maxDischargeDepth := 8) only [F_r06_Kind, bs_kinds, i2, w2, Nat.mul_one, zz0, zz1, zz2, zz3, zz4, zz5, zz6, zz7, zz8, zz9, argsF, reduceIte, reduceCtorEq, Nat.reduceEqDiff, Nat.reduceBEq, Nat.reduceAdd, Int.reduceLT, Int.reduceLE, Int.reduceEq, Int.reduceToNat, Int.reduceNeg, Nat.reduceLeDiff, Int.reducePow, implies_true, UInt8.reduceToNat, Int.reduceSub, Int.reduceAdd, Nat.reduceLT, Nat.reduceMul, Nat.reduceSub, Nat.reduceBNe]
theorem opsL_inj : ∀ i : Nat, i < 16 → ∀ j : Nat, j < 16 → opsL[i]? = opsL[j]? → i = j := by decide
theorem opsL_ne : [] ∉ opsL := by decide
theorem ixL_ops {s : Txt} {i : Nat} (h : opsL[i]? = some s) : max 0 (ixL s ([] :: opsL)) = ((i + 1 : Nat) : Int) := by
  have hm := List.mem_of_getElem? h
  have hi := (List.getElem?_eq_some_iff.1 h).1
  have e : ixN s ([] :: opsL) = i + 1 := by
    refine ixN_at ?_ (by rw [List.getElem?_cons_succ, h])
    rw [List.take_succ_cons, List.mem_cons]
    rintro (q | q)
    · subst q; exact opsL_ne hm
    · obtain ⟨j, hj⟩ := List.getElem?_of_mem q
      have hj2 := (List.getElem?_eq_some_iff.1 hj).1
      rw [List.length_take] at hj2
      rw [List.getElem?_take, if_pos (by omega)] at hj
      have hl16 : opsL.length = 16 := rfl
      have := opsL_inj i hi j (by omega) (by rw [h, hj])
      omega
  unfold ixL
  rw [if_pos (List.mem_cons_of_mem _ hm), e]
  omega
theorem ixL_none {s : Txt} (h : s ∉ opsL) : max 0 (ixL s ([] :: opsL)) = 0 := by
  unfold ixL
  by_cases hs : s = []
  · subst hs; rfl
  · rw [if_neg (by rw [List.mem_cons]; rintro (q | q); exact hs q; exact h q)]; rfl
theorem tw_loop {s : Txt} {tg : Nat} {v0 v2 v8 : EV} {fr : Fr} {m0 : Mem} (h0 : fr.get 0 = v0) (h1 : fr.get 1 = .str s) (h2 : fr.get 2 = v2) (h7 : fr.get 7 = .fz tg 1 (strs1 opsL)) (h8 : fr.get 8 = v8) (h9 : fr.get 9 = .int .i64 0) (h10 : fr.get 10 = .int .i64 0) (hd : fr.defers = []) :
    ∃ o, exec U (.loop F_l06_TreeWords_l0) fr m0 = some o ∧ ∃ fr', o = .exit 0 fr' m0 ∧ fr'.get 0 = v0 ∧ fr'.get 1 = .str s ∧ fr'.get 2 = v2 ∧ fr'.get 8 = v8 ∧ fr'.get 9 = .int .i64 (max 0 (ixL s ([] :: opsL))) ∧ fr'.defers = [] := by
  refine loop_w (σ := Nat) (fun i fr m => m = m0 ∧ i ≤ 16 ∧ fr.get 0 = v0 ∧ fr.get 1 = .str s ∧ fr.get 2 = v2 ∧ fr.get 7 = .fz tg 1 (strs1 opsL) ∧ fr.get 8 = v8 ∧ fr.get 10 = .int .i64 (i : Int) ∧ ((s ∉ opsL.take i ∧ fr.get 9 = .int .i64 0) ∨ (s ∈ opsL.take i ∧ fr.get 9 = .int .i64 (max 0 (ixL s ([] :: opsL))))) ∧ fr.defers = []) (fun i => 16 - i) _ ?_ 0 fr m0 ⟨rfl, Nat.zero_le _, h0, h1, h2, h7, h8, h10, .inl ⟨by simp, h9⟩, hd⟩
  rintro i fr m ⟨rfl, hi, h0, h1, h2, h7, h8, h10, h9, hd⟩
  generalize hX : exec U F_l06_TreeWords_l0 fr m = X
  have hlen : (strs1 opsL).length = 16 := rfl
  by_cases hlt : i < 16
  · have hc : (i : Int) < 16 := by omega
    have hlt' : i < opsL.length := hlt
    have hg : opsL[i]? = some opsL[i] := List.getElem?_eq_getElem hlt'
    have hw1 := wrap_succ (i := i) (by omega)
    have hix : idx 16 (.int .i64 (i : Int)) = some i := idx_cast hlt
    have htk : opsL.take (i + 1) = opsL.take i ++ [opsL[i]] := List.take_succ_eq_append_getElem hlt'
    generalize opsL[i] = t at hg htk
    by_cases he : t = s
    · subst he
      have hm := ixL_ops hg
      simp +contextual -implicitDefEqProofs (maxSteps := 1000000) (maxDischargeDepth := 8) only [F_l06_TreeWords_l0, h0, h1, h2, h7, h8, h10, hd, hlen, hc, hg, hw1, hix, strs1_get, zz0, zz1, zz2, zz3, zz4, zz5, zz6, zz7, zz8, zz9, argsF, reduceIte, reduceCtorEq, Nat.reduceEqDiff, Nat.reduceBEq, Nat.reduceAdd, Int.reduceLT, Int.reduceLE, Int.reduceEq, Int.reduceToNat, Int.reduceNeg, Nat.reduceLeDiff, Int.reducePow, implies_true, UInt8.reduceToNat, Int.reduceSub, Int.reduceAdd, Nat.reduceLT, Nat.reduceMul, Nat.reduceSub, Nat.reduceBNe] at hX
      subst hX
      refine lw_norm (i + 1) (by omega) ⟨rfl, hlt, by simp only [h0, get_set', selE_t, selE_f, Nat.reduceBEq, set_defers, fr00_get, fr00_defers, put_some, put_none ], by simp only [h1, get_set', selE_t, selE_f, Nat.reduceBEq, set_defers, fr00_get, fr00_defers, put_some, put_none ], by simp only [h2, get_set', selE_t, selE_f, Nat.reduceBEq, set_defers, fr00_get, fr00_defers, put_some, put_none ], by simp only [h7, get_set', selE_t, selE_f, Nat.reduceBEq, set_defers, fr00_get, fr00_defers, put_some, put_none ], by simp only [h8, get_set', selE_t, selE_f, Nat.reduceBEq, set_defers, fr00_get, fr00_defers, put_some, put_none ], by simp only [get_set', selE_t, selE_f, Nat.reduceBEq, set_defers, fr00_get, fr00_defers, put_some, put_none ], .inr ⟨by rw [htk]; simp, by simp only [hm, get_set', selE_t, selE_f, Nat.reduceBEq, set_defers, fr00_get, fr00_defers, put_some, put_none ]⟩, by simp only [hd, get_set', selE_t, selE_f, Nat.reduceBEq, set_defers, fr00_get, fr00_defers, put_some, put_none ]⟩
    · simp +contextual -implicitDefEqProofs (maxSteps := 1000000) (maxDischargeDepth := 8) only [F_l06_TreeWords_l0, h0, h1, h2, h7, h8, h10, hd, hlen, hc, hg, hw1, hix, he, strs1_get, bo_ff, zz0, zz1, zz2, zz3, zz4, zz5, zz6, zz7, zz8, zz9, argsF, reduceIte, reduceCtorEq, Nat.reduceEqDiff, Nat.reduceBEq, Nat.reduceAdd, Int.reduceLT, Int.reduceLE, Int.reduceEq, Int.reduceToNat, Int.reduceNeg, Nat.reduceLeDiff, Int.reducePow, implies_true, UInt8.reduceToNat, Int.reduceSub, Int.reduceAdd, Nat.reduceLT, Nat.reduceMul, Nat.reduceSub, Nat.reduceBNe] at hX
      subst hX
      refine lw_norm (i + 1) (by omega) ⟨rfl, hlt, by simp only [h0, get_set', selE_t, selE_f, Nat.reduceBEq, set_defers, fr00_get, fr00_defers, put_some, put_none ], by simp only [h1, get_set', selE_t, selE_f, Nat.reduceBEq, set_defers, fr00_get, fr00_defers, put_some, put_none ], by simp only [h2, get_set', selE_t, selE_f, Nat.reduceBEq, set_defers, fr00_get, fr00_defers, put_some, put_none ], by simp only [h7, get_set', selE_t, selE_f, Nat.reduceBEq, set_defers, fr00_get, fr00_defers, put_some, put_none ], by simp only [h8, get_set', selE_t, selE_f, Nat.reduceBEq, set_defers, fr00_get, fr00_defers, put_some, put_none ], by simp only [get_set', selE_t, selE_f, Nat.reduceBEq, set_defers, fr00_get, fr00_defers, put_some, put_none ], ?_, by simp only [hd, get_set', selE_t, selE_f, Nat.reduceBEq, set_defers, fr00_get, fr00_defers, put_some, put_none ]⟩
      rcases h9 with ⟨q1, q2⟩ | ⟨q1, q2⟩
      · exact .inl ⟨by rw [htk, List.mem_append]; rintro (q | q); exact q1 q; exact he (List.mem_singleton.1 q).symm, by simp only [q2, get_set', selE_t, selE_f, Nat.reduceBEq, set_defers, fr00_get, fr00_defers, put_some, put_none ]⟩
      · exact .inr ⟨by rw [htk, List.mem_append]; exact .inl q1, by simp only [q2, get_set', selE_t, selE_f, Nat.reduceBEq, set_defers, fr00_get, fr00_defers, put_some, put_none ]⟩
  · have hc : ¬ (i : Int) < 16 := by omega
    obtain rfl : i = 16 := by omega
    have htk : opsL.take 16 = opsL := rfl
    rw [htk] at h9
    simp +contextual -implicitDefEqProofs (maxSteps := 1000000) (maxDischargeDepth := 8) only [F_l06_TreeWords_l0, h0, h1, h2, h7, h8, h10, hd, hlen, hc, zz0, zz1, zz2, zz3, zz4, zz5, zz6, zz7, zz8, zz9, argsF, reduceIte, reduceCtorEq, Nat.reduceEqDiff, Nat.reduceBEq, Nat.reduceAdd, Int.reduceLT, Int.reduceLE, Int.reduceEq, Int.reduceToNat, Int.reduceNeg, Nat.reduceLeDiff, Int.reducePow, implies_true, UInt8.reduceToNat, Int.reduceSub, Int.reduceAdd, Nat.reduceLT, Nat.reduceMul, Nat.reduceSub, Nat.reduceBNe] at hX
    subst hX
    refine lw_exit ⟨_, rfl, by simp only [h0, get_set', selE_t, selE_f, Nat.reduceBEq, set_defers, fr00_get, fr00_defers, put_some, put_none ], by simp only [h1, get_set', selE_t, selE_f, Nat.reduceBEq, set_defers, fr00_get, fr00_defers, put_some, put_none ], by simp only [h2, get_set', selE_t, selE_f, Nat.reduceBEq, set_defers, fr00_get, fr00_defers, put_some, put_none ], by simp only [h8, get_set', selE_t, selE_f, Nat.reduceBEq, set_defers, fr00_get, fr00_defers, put_some, put_none ], ?_, by simp only [hd, get_set', selE_t, selE_f, Nat.reduceBEq, set_defers, fr00_get, fr00_defers, put_some, put_none ]⟩
    rcases h9 with ⟨q1, q2⟩ | ⟨q1, q2⟩
    · rw [ixL_none q1]; simp only [q2, get_set', selE_t, selE_f, Nat.reduceBEq, set_defers, fr00_get, fr00_defers, put_some, put_none ]
    · simp only [q2, get_set', selE_t, selE_f, Nat.reduceBEq, set_defers, fr00_get, fr00_defers, put_some, put_none ]
theorem treeWords_law {op k : Int} {s : Txt} (h1 : -9223372036854775808 ≤ op ∧ op < 9223372036854775808) (h2 : -9223372036854775808 ≤ k ∧ k < 9223372036854775808) : pureR B K n_l06_TreeWords [.int .i64 op, .str s, .int .i64 k] = some (.bool true) := by
  have t1 := tree_sign h1.1 h1.2
  have t2 := tree_op (s := s)
  have t3 := tree_kind (k := k)
  have t4 := ref_kind h2.1 h2.2
  have hlen : (strs1 opsL).length = 16 := rfl
  rw [pure_at (by simp [F_l06_TreeWords])]
  generalize hL : exec (UT B K) (ICode.loop F_l06_TreeWords_l0) = L
  by_cases a : 1 ≤ op
  · by_cases b : op ≤ 16
    · obtain ⟨n, rfl⟩ : ∃ n : Nat, op = (n : Int) + 1 := ⟨(op - 1).toNat, by omega⟩
      have hn : n < 16 := by omega
      have hw : IntKind.i64.wrap ((n : Int) + 1 - 1) = (n : Int) := by rw [wrap_i64 (by omega) (by omega)]; omega
      have hi : idx 16 (.int .i64 (n : Int)) = some n := idx_cast hn
      have hg : opsL[n]? = some (signT ((n : Int) + 1)) := by
        have : ∀ n : Nat, n < 16 → opsL[n]? = some (signT ((n : Int) + 1)) := by decide
        exact this n hn
      simp +contextual -implicitDefEqProofs (maxSteps := 1000000) (maxDischargeDepth := 8) only [F_l06_TreeWords, ref_signs, a, b, hw, hlen, hi, hg, strs1_get, zz0, zz1, zz2, zz3, zz4, zz5, zz6, zz7, zz8, zz9, argsF, reduceIte, reduceCtorEq, Nat.reduceEqDiff, Nat.reduceBEq, Nat.reduceAdd, Int.reduceLT, Int.reduceLE, Int.reduceEq, Int.reduceToNat, Int.reduceNeg, Nat.reduceLeDiff, Int.reducePow, implies_true, UInt8.reduceToNat, Int.reduceSub, Int.reduceAdd, Nat.reduceLT, Nat.reduceMul, Nat.reduceSub, Nat.reduceBNe]
      subst hL
      generalize hX : exec _ (.loop F_l06_TreeWords_l0) _ _ = X
      obtain ⟨o, rfl, fr', rfl, f0, f1, f2, f8, f9, fd⟩ := looped hX (tw_loop (s := s) (tg := 0) (v0 := .int .i64 ((n : Int) + 1)) (v2 := .int .i64 k) (v8 := .str (signT ((n : Int) + 1))) (by simp only [get_set', selE_t, selE_f, Nat.reduceBEq, set_defers, fr00_get, fr00_defers, put_some, put_none ]) (by simp only [get_set', selE_t, selE_f, Nat.reduceBEq, set_defers, fr00_get, fr00_defers, put_some, put_none ]) (by simp only [get_set', selE_t, selE_f, Nat.reduceBEq, set_defers, fr00_get, fr00_defers, put_some, put_none ]) (by simp only [get_set', selE_t, selE_f, Nat.reduceBEq, set_defers, fr00_get, fr00_defers, put_some, put_none ]) (by simp only [get_set', selE_t, selE_f, Nat.reduceBEq, set_defers, fr00_get, fr00_defers, put_some, put_none ]) (by simp only [get_set', selE_t, selE_f, Nat.reduceBEq, set_defers, fr00_get, fr00_defers, put_some, put_none ]) (by simp only [get_set', selE_t, selE_f, Nat.reduceBEq, set_defers, fr00_get, fr00_defers, put_some, put_none ]) (by simp only [get_set', selE_t, selE_f, Nat.reduceBEq, set_defers, fr00_get, fr00_defers, put_some, put_none ]))
      simp +contextual -implicitDefEqProofs (maxSteps := 1000000) (maxDischargeDepth := 8) only [f0, f1, f2, f8, f9, fd, t1, t2, t3, t4, run_works8, zz0, zz1, zz2, zz3, zz4, zz5, zz6, zz7, zz8, zz9, argsF, reduceIte, reduceCtorEq, Nat.reduceEqDiff, Nat.reduceBEq, Nat.reduceAdd, Int.reduceLT, Int.reduceLE, Int.reduceEq, Int.reduceToNat, Int.reduceNeg, Nat.reduceLeDiff, Int.reducePow, implies_true, UInt8.reduceToNat, Int.reduceSub, Int.reduceAdd, Nat.reduceLT, Nat.reduceMul, Nat.reduceSub, Nat.reduceBNe]
    · have e : signT op = [] := if_neg (by omega)
      rw [e] at t1
      simp +contextual -implicitDefEqProofs (maxSteps := 1000000) (maxDischargeDepth := 8) only [F_l06_TreeWords, ref_signs, a, b, zz0, zz1, zz2, zz3, zz4, zz5, zz6, zz7, zz8, zz9, argsF, reduceIte, reduceCtorEq, Nat.reduceEqDiff, Nat.reduceBEq, Nat.reduceAdd, Int.reduceLT, Int.reduceLE, Int.reduceEq, Int.reduceToNat, Int.reduceNeg, Nat.reduceLeDiff, Int.reducePow, implies_true, UInt8.reduceToNat, Int.reduceSub, Int.reduceAdd, Nat.reduceLT, Nat.reduceMul, Nat.reduceSub, Nat.reduceBNe]
      subst hL
      generalize hX : exec _ (.loop F_l06_TreeWords_l0) _ _ = X
      obtain ⟨o, rfl, fr', rfl, f0, f1, f2, f8, f9, fd⟩ := looped hX (tw_loop (s := s) (tg := 0) (v0 := .int .i64 op) (v2 := .int .i64 k) (v8 := .str []) (by simp only [get_set', selE_t, selE_f, Nat.reduceBEq, set_defers, fr00_get, fr00_defers, put_some, put_none ]) (by simp only [get_set', selE_t, selE_f, Nat.reduceBEq, set_defers, fr00_get, fr00_defers, put_some, put_none ]) (by simp only [get_set', selE_t, selE_f, Nat.reduceBEq, set_defers, fr00_get, fr00_defers, put_some, put_none ]) (by simp only [get_set', selE_t, selE_f, Nat.reduceBEq, set_defers, fr00_get, fr00_defers, put_some, put_none ]) (by simp only [get_set', selE_t, selE_f, Nat.reduceBEq, set_defers, fr00_get, fr00_defers, put_some, put_none ]) (by simp only [get_set', selE_t, selE_f, Nat.reduceBEq, set_defers, fr00_get, fr00_defers, put_some, put_none ]) (by simp only [get_set', selE_t, selE_f, Nat.reduceBEq, set_defers, fr00_get, fr00_defers, put_some, put_none ]) (by simp only [get_set', selE_t, selE_f, Nat.reduceBEq, set_defers, fr00_get, fr00_defers, put_some, put_none ]))
      simp +contextual -implicitDefEqProofs (maxSteps := 1000000) (maxDischargeDepth := 8) only [f0, f1, f2, f8, f9, fd, t1, t2, t3, t4, run_works8, zz0, zz1, zz2, zz3, zz4, zz5, zz6, zz7, zz8, zz9, argsF, reduceIte, reduceCtorEq, Nat.reduceEqDiff, Nat.reduceBEq, Nat.reduceAdd, Int.reduceLT, Int.reduceLE, Int.reduceEq, Int.reduceToNat, Int.reduceNeg, Nat.reduceLeDiff, Int.reducePow, implies_true, UInt8.reduceToNat, Int.reduceSub, Int.reduceAdd, Nat.reduceLT, Nat.reduceMul, Nat.reduceSub, Nat.reduceBNe]
  · have e : signT op = [] := if_neg (by omega)
    rw [e] at t1
    simp +contextual -implicitDefEqProofs (maxSteps := 1000000) (maxDischargeDepth := 8) only [F_l06_TreeWords, ref_signs, a, zz0, zz1, zz2, zz3, zz4, zz5, zz6, zz7, zz8, zz9, argsF, reduceIte, reduceCtorEq, Nat.reduceEqDiff, Nat.reduceBEq, Nat.reduceAdd, Int.reduceLT, Int.reduceLE, Int.reduceEq, Int.reduceToNat, Int.reduceNeg, Nat.reduceLeDiff, Int.reducePow, implies_true, UInt8.reduceToNat, Int.reduceSub, Int.reduceAdd, Nat.reduceLT, Nat.reduceMul, Nat.reduceSub, Nat.reduceBNe]
    subst hL
    generalize hX : exec _ (.loop F_l06_TreeWords_l0) _ _ = X
    obtain ⟨o, rfl, fr', rfl, f0, f1, f2, f8, f9, fd⟩ := looped hX (tw_loop (s := s) (tg := 0) (v0 := .int .i64 op) (v2 := .int .i64 k) (v8 := .str []) (by simp only [get_set', selE_t, selE_f, Nat.reduceBEq, set_defers, fr00_get, fr00_defers, put_some, put_none ]) (by simp only [get_set', selE_t, selE_f, Nat.reduceBEq, set_defers, fr00_get, fr00_defers, put_some, put_none ]) (by simp only [get_set', selE_t, selE_f, Nat.reduceBEq, set_defers, fr00_get, fr00_defers, put_some, put_none ]) (by simp only [get_set', selE_t, selE_f, Nat.reduceBEq, set_defers, fr00_get, fr00_defers, put_some, put_none ]) (by simp only [get_set', selE_t, selE_f, Nat.reduceBEq, set_defers, fr00_get, fr00_defers, put_some, put_none ]) (by simp only [get_set', selE_t, selE_f, Nat.reduceBEq, set_defers, fr00_get, fr00_defers, put_some, put_none ]) (by simp only [get_set', selE_t, selE_f, Nat.reduceBEq, set_defers, fr00_get, fr00_defers, put_some, put_none ]) (by simp only [get_set', selE_t, selE_f, Nat.reduceBEq, set_defers, fr00_get, fr00_defers, put_some, put_none ]))
    simp +contextual -implicitDefEqProofs (maxSteps := 1000000) (maxDischargeDepth := 8) only [f0, f1, f2, f8, f9, fd, t1, t2, t3, t4, run_works8, zz0, zz1, zz2, zz3, zz4, zz5, zz6, zz7, zz8, zz9, argsF, reduceIte, reduceCtorEq, Nat.reduceEqDiff, Nat.reduceBEq, Nat.reduceAdd, Int.reduceLT, Int.reduceLE, Int.reduceEq, Int.reduceToNat, Int.reduceNeg, Nat.reduceLeDiff, Int.reducePow, implies_true, UInt8.reduceToNat, Int.reduceSub, Int.reduceAdd, Nat.reduceLT, Nat.reduceMul, Nat.reduceSub, Nat.reduceBNe]
/-- The law's run. -/
theorem treeWords_run {m : Mem} {es : List EV} {ds : List Dt} (hm : Stands m) (hg : GlobOk (still m)) (h : RepVs m [.int .i64, .str, .int .i64] es ds) : ∃ m', run T n_l06_TreeWords es m = some (.ret (.bool true) m') := by
  obtain ⟨us, hu, hl⟩ := law_pure entB (f := n_l06_TreeWords) (F := F_l06_TreeWords) (HasF.has (T := B)) hm h rfl hg
  obtain ⟨e, d, es', ds', rfl, _, h1, hu⟩ := hu.one
  obtain ⟨e2, d2, es2, ds2, rfl, _, h2, hu⟩ := hu.one
  obtain ⟨e3, d3, es3, ds3, rfl, _, h3, hu⟩ := hu.one
  obtain rfl := hu.none
  obtain ⟨n, rfl, hn⟩ := fz_int h1
  obtain ⟨s, rfl, _⟩ := fz_str h2
  obtain ⟨k, rfl, hk⟩ := fz_int h3
  exact hl (treeWords_law (wf_i64 hn) (wf_i64 hk))
end Go.Proofs.YtblcomejcahkdaaDoor.Ev
end
