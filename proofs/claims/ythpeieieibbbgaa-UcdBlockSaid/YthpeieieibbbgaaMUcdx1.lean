-- Written by a program of this session for this claim (out of the translation's print); Lean checks it.
import Derived.Test.YthpeieieibbbgaaMUcdx0
namespace Go.Proofs.Ythpeieieibbbgaa.MUcd
open Go.RowKit Go.Proofs.YthpeieieibbbgaaW.PrintWords Go.Proofs.YthpeieieibbbgaaW.PrintLast Go.Proofs.YthpeieieibbbgaaW.PrintMore
attribute [local go_sem] max2_int min2_int max_two min_two max_three min_three max_four min_four   -- for this text's walks alone
set_option linter.unusedVariables false
set_option linter.unusedSimpArgs false

/-- A text that the program writes out. -/
def lit366 : ByteArray := { data := (((([51, 48, 48, 32, 51, 49, 52, 32, 50, 51, 48, 10, 51, 49, 53, 32, 51, 49, 53, 32, 50, 51, 50, 10, 51, 49, 54, 32, 51, 49, 57, 32, 50, 50, 48, 10, 51, 49, 65, 32, 51, 49, 65, 32, 50]).append ([51, 50, 10, 51, 49, 66, 32, 51, 49, 66, 32, 50, 49, 54, 10, 51, 49, 67, 32, 51, 50, 48, 32, 50, 50, 48, 10, 51, 50, 49, 32, 51, 50, 50, 32, 50, 48, 50, 10, 51, 50, 51, 32, 51, 50, 54])).append (([32, 50, 50, 48, 10, 51, 50, 55, 32, 51, 50, 56, 32, 50, 48, 50, 10, 51, 50, 57, 32, 51, 51, 51, 32, 50, 50, 48, 10, 51, 51, 52, 32, 51, 51, 56, 32, 49, 10, 51, 51, 57, 32, 51, 51, 67]).append ([32, 50, 50, 48, 10, 51, 51, 68, 32, 51, 52, 52, 32, 50, 51, 48, 10, 51, 52, 53, 32, 51, 52, 53, 32, 50, 52, 48, 10, 51, 52, 54, 32, 51, 52, 54, 32, 50, 51, 48, 10, 51, 52, 55, 32, 51]))).append ((([52, 57, 32, 50, 50, 48, 10, 53, 66, 48, 32, 53, 66, 48, 32, 49, 48, 10, 53, 66, 52, 32, 53, 66, 52, 32, 49, 52, 10, 53, 66, 67, 32, 53, 66, 67, 32, 50, 49, 10, 53, 67, 49, 32, 53]).append ([67, 49, 32, 50, 52, 10, 53, 67, 50, 32, 53, 67, 50, 32, 50, 53, 10, 54, 52, 66, 32, 54, 52, 66, 32, 50, 55, 10, 54, 53, 49, 32, 54, 53, 49, 32, 51, 51, 10, 54, 53, 51, 32, 54, 53, 52])).append (([32, 50, 51, 48, 10, 54, 53, 53, 32, 54, 53, 53, 32, 50, 50, 48, 10, 54, 55, 48, 32, 54, 55, 48, 32, 51, 53, 10, 57, 51, 67, 32, 57, 51, 67, 32, 55, 10, 57, 52, 68, 32, 57, 52, 68, 32]).append ([57, 10, 51, 48, 57, 57, 32, 51, 48, 57, 65, 32, 56, 10, 49, 68, 49, 54, 53, 32, 49, 68, 49, 54, 53, 32, 50, 49, 54, 10, 49, 68, 49, 54, 69, 32, 49, 68, 49, 54, 69, 32, 50, 49, 54, 10])))).toArray }
theorem lit366_def : lit366 = { data := (((([51, 48, 48, 32, 51, 49, 52, 32, 50, 51, 48, 10, 51, 49, 53, 32, 51, 49, 53, 32, 50, 51, 50, 10, 51, 49, 54, 32, 51, 49, 57, 32, 50, 50, 48, 10, 51, 49, 65, 32, 51, 49, 65, 32, 50]).append ([51, 50, 10, 51, 49, 66, 32, 51, 49, 66, 32, 50, 49, 54, 10, 51, 49, 67, 32, 51, 50, 48, 32, 50, 50, 48, 10, 51, 50, 49, 32, 51, 50, 50, 32, 50, 48, 50, 10, 51, 50, 51, 32, 51, 50, 54])).append (([32, 50, 50, 48, 10, 51, 50, 55, 32, 51, 50, 56, 32, 50, 48, 50, 10, 51, 50, 57, 32, 51, 51, 51, 32, 50, 50, 48, 10, 51, 51, 52, 32, 51, 51, 56, 32, 49, 10, 51, 51, 57, 32, 51, 51, 67]).append ([32, 50, 50, 48, 10, 51, 51, 68, 32, 51, 52, 52, 32, 50, 51, 48, 10, 51, 52, 53, 32, 51, 52, 53, 32, 50, 52, 48, 10, 51, 52, 54, 32, 51, 52, 54, 32, 50, 51, 48, 10, 51, 52, 55, 32, 51]))).append ((([52, 57, 32, 50, 50, 48, 10, 53, 66, 48, 32, 53, 66, 48, 32, 49, 48, 10, 53, 66, 52, 32, 53, 66, 52, 32, 49, 52, 10, 53, 66, 67, 32, 53, 66, 67, 32, 50, 49, 10, 53, 67, 49, 32, 53]).append ([67, 49, 32, 50, 52, 10, 53, 67, 50, 32, 53, 67, 50, 32, 50, 53, 10, 54, 52, 66, 32, 54, 52, 66, 32, 50, 55, 10, 54, 53, 49, 32, 54, 53, 49, 32, 51, 51, 10, 54, 53, 51, 32, 54, 53, 52])).append (([32, 50, 51, 48, 10, 54, 53, 53, 32, 54, 53, 53, 32, 50, 50, 48, 10, 54, 55, 48, 32, 54, 55, 48, 32, 51, 53, 10, 57, 51, 67, 32, 57, 51, 67, 32, 55, 10, 57, 52, 68, 32, 57, 52, 68, 32]).append ([57, 10, 51, 48, 57, 57, 32, 51, 48, 57, 65, 32, 56, 10, 49, 68, 49, 54, 53, 32, 49, 68, 49, 54, 53, 32, 50, 49, 54, 10, 49, 68, 49, 54, 69, 32, 49, 68, 49, 54, 69, 32, 50, 49, 54, 10])))).toArray } := rfl

/-- A text that the program writes out. -/
def lit1304 : ByteArray := { data := (((((([67, 48, 32, 52, 49, 32, 51, 48, 48, 10, 67, 49, 32, 52, 49, 32, 51, 48, 49, 10, 67, 50, 32, 52, 49, 32, 51, 48, 50, 10, 67, 51, 32, 52, 49, 32, 51, 48, 51, 10]).append ([67, 52, 32, 52, 49, 32, 51, 48, 56, 10, 67, 53, 32, 52, 49, 32, 51, 48, 65, 10, 67, 55, 32, 52, 51, 32, 51, 50, 55, 10, 67, 56, 32, 52, 53, 32, 51, 48, 48, 10, 67])).append (([57, 32, 52, 53, 32, 51, 48, 49, 10, 67, 65, 32, 52, 53, 32, 51, 48, 50, 10, 67, 66, 32, 52, 53, 32, 51, 48, 56, 10, 67, 67, 32, 52, 57, 32, 51, 48, 48, 10, 67, 68]).append ([32, 52, 57, 32, 51, 48, 49, 10, 67, 69, 32, 52, 57, 32, 51, 48, 50, 10, 67, 70, 32, 52, 57, 32, 51, 48, 56, 10, 68, 49, 32, 52, 69, 32, 51, 48, 51, 10, 68, 50, 32]))).append ((([52, 70, 32, 51, 48, 48, 10, 68, 51, 32, 52, 70, 32, 51, 48, 49, 10, 68, 52, 32, 52, 70, 32, 51, 48, 50, 10, 68, 53, 32, 52, 70, 32, 51, 48, 51, 10, 68, 54, 32]).append ([52, 70, 32, 51, 48, 56, 10, 68, 57, 32, 53, 53, 32, 51, 48, 48, 10, 68, 65, 32, 53, 53, 32, 51, 48, 49, 10, 68, 66, 32, 53, 53, 32, 51, 48, 50, 10, 68, 67, 32, 53])).append (([53, 32, 51, 48, 56, 10, 68, 68, 32, 53, 57, 32, 51, 48, 49, 10, 69, 48, 32, 54, 49, 32, 51, 48, 48, 10, 69, 49, 32, 54, 49, 32, 51, 48, 49, 10, 69, 50, 32, 54, 49]).append ([32, 51, 48, 50, 10, 69, 51, 32, 54, 49, 32, 51, 48, 51, 10, 69, 52, 32, 54, 49, 32, 51, 48, 56, 10, 69, 53, 32, 54, 49, 32, 51, 48, 65, 10, 69, 55, 32, 54, 51, 32])))).append (((([51, 50, 55, 10, 69, 56, 32, 54, 53, 32, 51, 48, 48, 10, 69, 57, 32, 54, 53, 32, 51, 48, 49, 10, 69, 65, 32, 54, 53, 32, 51, 48, 50, 10, 69, 66, 32, 54, 53, 32]).append ([51, 48, 56, 10, 69, 67, 32, 54, 57, 32, 51, 48, 48, 10, 69, 68, 32, 54, 57, 32, 51, 48, 49, 10, 69, 69, 32, 54, 57, 32, 51, 48, 50, 10, 69, 70, 32, 54, 57, 32, 51])).append (([48, 56, 10, 70, 49, 32, 54, 69, 32, 51, 48, 51, 10, 70, 50, 32, 54, 70, 32, 51, 48, 48, 10, 70, 51, 32, 54, 70, 32, 51, 48, 49, 10, 70, 52, 32, 54, 70, 32, 51, 48]).append ([50, 10, 70, 53, 32, 54, 70, 32, 51, 48, 51, 10, 70, 54, 32, 54, 70, 32, 51, 48, 56, 10, 70, 57, 32, 55, 53, 32, 51, 48, 48, 10, 70, 65, 32, 55, 53, 32, 51, 48, 49]))).append ((([10, 70, 66, 32, 55, 53, 32, 51, 48, 50, 10, 70, 67, 32, 55, 53, 32, 51, 48, 56, 10, 70, 68, 32, 55, 57, 32, 51, 48, 49, 10, 70, 70, 32, 55, 57, 32, 51, 48, 56]).append ([10, 49, 48, 48, 32, 52, 49, 32, 51, 48, 52, 10, 49, 48, 49, 32, 54, 49, 32, 51, 48, 52, 10, 49, 48, 50, 32, 52, 49, 32, 51, 48, 54, 10, 49, 48, 51, 32, 54, 49, 32])).append (([51, 48, 54, 10, 49, 48, 52, 32, 52, 49, 32, 51, 50, 56, 10, 49, 48, 53, 32, 54, 49, 32, 51, 50, 56, 10, 49, 49, 50, 32, 52, 53, 32, 51, 48, 52, 10, 49, 49, 51, 32]).append ([54, 53, 32, 51, 48, 52, 10, 49, 49, 52, 32, 52, 53, 32, 51, 48, 54, 10, 49, 49, 53, 32, 54, 53, 32, 51, 48, 54, 10, 49, 69, 48, 32, 52, 49, 32, 51, 48, 55, 32, 51]))))).append ((((([48, 52, 10, 49, 69, 49, 32, 54, 49, 32, 51, 48, 55, 32, 51, 48, 52, 10, 51, 52, 52, 32, 51, 48, 56, 32, 51, 48, 49, 10, 51, 55, 52, 32, 50, 66, 57, 10, 51, 56]).append ([53, 32, 65, 56, 32, 51, 48, 49, 10, 51, 56, 54, 32, 51, 57, 49, 32, 51, 48, 49, 10, 51, 57, 48, 32, 51, 66, 57, 32, 51, 48, 56, 32, 51, 48, 49, 10, 51, 65, 67, 32])).append (([51, 66, 49, 32, 51, 48, 49, 10, 52, 51, 57, 32, 52, 51, 56, 32, 51, 48, 54, 10, 52, 53, 49, 32, 52, 51, 53, 32, 51, 48, 56, 10, 54, 50, 50, 32, 54, 50, 55, 32, 54]).append ([53, 51, 10, 54, 50, 51, 32, 54, 50, 55, 32, 54, 53, 52, 10, 54, 50, 52, 32, 54, 52, 56, 32, 54, 53, 52, 10, 57, 50, 57, 32, 57, 50, 56, 32, 57, 51, 67, 10, 57, 51]))).append ((([49, 32, 57, 51, 48, 32, 57, 51, 67, 10, 57, 53, 56, 32, 57, 49, 53, 32, 57, 51, 67, 10, 49, 69, 48, 56, 32, 52, 51, 32, 51, 50, 55, 32, 51, 48, 49, 10, 49, 69]).append ([48, 57, 32, 54, 51, 32, 51, 50, 55, 32, 51, 48, 49, 10, 49, 69, 54, 57, 32, 55, 51, 32, 51, 50, 51, 32, 51, 48, 55, 10, 49, 69, 57, 66, 32, 49, 55, 70, 32, 51, 48])).append (([55, 10, 49, 69, 65, 52, 32, 52, 49, 32, 51, 48, 50, 32, 51, 48, 49, 10, 49, 69, 65, 53, 32, 54, 49, 32, 51, 48, 50, 32, 51, 48, 49, 10, 49, 69, 68, 56, 32, 52, 70]).append ([32, 51, 50, 51, 32, 51, 48, 50, 10, 49, 69, 68, 57, 32, 54, 70, 32, 51, 50, 51, 32, 51, 48, 50, 10, 49, 70, 48, 48, 32, 51, 66, 49, 32, 51, 49, 51, 10, 49, 70, 48])))).append (((([49, 32, 51, 66, 49, 32, 51, 49, 52, 10, 49, 70, 48, 50, 32, 51, 66, 49, 32, 51, 49, 51, 32, 51, 48, 48, 10, 49, 70, 55, 49, 32, 51, 66, 49, 32, 51, 48, 49, 10]).append ([49, 70, 56, 50, 32, 51, 66, 49, 32, 51, 49, 51, 32, 51, 48, 48, 32, 51, 52, 53, 10, 49, 70, 69, 70, 32, 54, 48, 10, 50, 48, 48, 48, 32, 50, 48, 48, 50, 10, 50, 48])).append (([48, 49, 32, 50, 48, 48, 51, 10, 50, 49, 50, 54, 32, 51, 65, 57, 10, 50, 49, 50, 65, 32, 52, 66, 10, 50, 49, 50, 66, 32, 52, 49, 32, 51, 48, 65, 10, 50, 50, 54, 48]).append ([32, 51, 68, 32, 51, 51, 56, 10, 50, 65, 68, 67, 32, 50, 65, 68, 68, 32, 51, 51, 56, 10, 51, 48, 52, 67, 32, 51, 48, 52, 66, 32, 51, 48, 57, 57, 10, 51, 48, 55, 48]))).append ((([32, 51, 48, 54, 70, 32, 51, 48, 57, 57, 10, 51, 48, 55, 49, 32, 51, 48, 54, 70, 32, 51, 48, 57, 65, 10, 70, 57, 48, 48, 32, 56, 67, 52, 56, 10, 70, 66, 49, 68]).append ([32, 53, 68, 57, 32, 53, 66, 52, 10, 70, 66, 50, 65, 32, 53, 69, 57, 32, 53, 67, 49, 10, 70, 66, 50, 66, 32, 53, 69, 57, 32, 53, 67, 50, 10, 70, 66, 50, 67, 32, 53])).append (([69, 57, 32, 53, 66, 67, 32, 53, 67, 49, 10, 49, 68, 49, 53, 69, 32, 49, 68, 49, 53, 55, 32, 49, 68, 49, 54, 53, 10, 49, 68, 49, 53, 70, 32, 49, 68, 49, 53, 56, 32]).append ([49, 68, 49, 54, 53, 10, 49, 68, 49, 54, 48, 32, 49, 68, 49, 53, 56, 32, 49, 68, 49, 54, 53, 32, 49, 68, 49, 54, 69, 10, 50, 70, 56, 48, 48, 32, 52, 69, 51, 68, 10])))))).toArray }
theorem lit1304_def : lit1304 = { data := (((((([67, 48, 32, 52, 49, 32, 51, 48, 48, 10, 67, 49, 32, 52, 49, 32, 51, 48, 49, 10, 67, 50, 32, 52, 49, 32, 51, 48, 50, 10, 67, 51, 32, 52, 49, 32, 51, 48, 51, 10]).append ([67, 52, 32, 52, 49, 32, 51, 48, 56, 10, 67, 53, 32, 52, 49, 32, 51, 48, 65, 10, 67, 55, 32, 52, 51, 32, 51, 50, 55, 10, 67, 56, 32, 52, 53, 32, 51, 48, 48, 10, 67])).append (([57, 32, 52, 53, 32, 51, 48, 49, 10, 67, 65, 32, 52, 53, 32, 51, 48, 50, 10, 67, 66, 32, 52, 53, 32, 51, 48, 56, 10, 67, 67, 32, 52, 57, 32, 51, 48, 48, 10, 67, 68]).append ([32, 52, 57, 32, 51, 48, 49, 10, 67, 69, 32, 52, 57, 32, 51, 48, 50, 10, 67, 70, 32, 52, 57, 32, 51, 48, 56, 10, 68, 49, 32, 52, 69, 32, 51, 48, 51, 10, 68, 50, 32]))).append ((([52, 70, 32, 51, 48, 48, 10, 68, 51, 32, 52, 70, 32, 51, 48, 49, 10, 68, 52, 32, 52, 70, 32, 51, 48, 50, 10, 68, 53, 32, 52, 70, 32, 51, 48, 51, 10, 68, 54, 32]).append ([52, 70, 32, 51, 48, 56, 10, 68, 57, 32, 53, 53, 32, 51, 48, 48, 10, 68, 65, 32, 53, 53, 32, 51, 48, 49, 10, 68, 66, 32, 53, 53, 32, 51, 48, 50, 10, 68, 67, 32, 53])).append (([53, 32, 51, 48, 56, 10, 68, 68, 32, 53, 57, 32, 51, 48, 49, 10, 69, 48, 32, 54, 49, 32, 51, 48, 48, 10, 69, 49, 32, 54, 49, 32, 51, 48, 49, 10, 69, 50, 32, 54, 49]).append ([32, 51, 48, 50, 10, 69, 51, 32, 54, 49, 32, 51, 48, 51, 10, 69, 52, 32, 54, 49, 32, 51, 48, 56, 10, 69, 53, 32, 54, 49, 32, 51, 48, 65, 10, 69, 55, 32, 54, 51, 32])))).append (((([51, 50, 55, 10, 69, 56, 32, 54, 53, 32, 51, 48, 48, 10, 69, 57, 32, 54, 53, 32, 51, 48, 49, 10, 69, 65, 32, 54, 53, 32, 51, 48, 50, 10, 69, 66, 32, 54, 53, 32]).append ([51, 48, 56, 10, 69, 67, 32, 54, 57, 32, 51, 48, 48, 10, 69, 68, 32, 54, 57, 32, 51, 48, 49, 10, 69, 69, 32, 54, 57, 32, 51, 48, 50, 10, 69, 70, 32, 54, 57, 32, 51])).append (([48, 56, 10, 70, 49, 32, 54, 69, 32, 51, 48, 51, 10, 70, 50, 32, 54, 70, 32, 51, 48, 48, 10, 70, 51, 32, 54, 70, 32, 51, 48, 49, 10, 70, 52, 32, 54, 70, 32, 51, 48]).append ([50, 10, 70, 53, 32, 54, 70, 32, 51, 48, 51, 10, 70, 54, 32, 54, 70, 32, 51, 48, 56, 10, 70, 57, 32, 55, 53, 32, 51, 48, 48, 10, 70, 65, 32, 55, 53, 32, 51, 48, 49]))).append ((([10, 70, 66, 32, 55, 53, 32, 51, 48, 50, 10, 70, 67, 32, 55, 53, 32, 51, 48, 56, 10, 70, 68, 32, 55, 57, 32, 51, 48, 49, 10, 70, 70, 32, 55, 57, 32, 51, 48, 56]).append ([10, 49, 48, 48, 32, 52, 49, 32, 51, 48, 52, 10, 49, 48, 49, 32, 54, 49, 32, 51, 48, 52, 10, 49, 48, 50, 32, 52, 49, 32, 51, 48, 54, 10, 49, 48, 51, 32, 54, 49, 32])).append (([51, 48, 54, 10, 49, 48, 52, 32, 52, 49, 32, 51, 50, 56, 10, 49, 48, 53, 32, 54, 49, 32, 51, 50, 56, 10, 49, 49, 50, 32, 52, 53, 32, 51, 48, 52, 10, 49, 49, 51, 32]).append ([54, 53, 32, 51, 48, 52, 10, 49, 49, 52, 32, 52, 53, 32, 51, 48, 54, 10, 49, 49, 53, 32, 54, 53, 32, 51, 48, 54, 10, 49, 69, 48, 32, 52, 49, 32, 51, 48, 55, 32, 51]))))).append ((((([48, 52, 10, 49, 69, 49, 32, 54, 49, 32, 51, 48, 55, 32, 51, 48, 52, 10, 51, 52, 52, 32, 51, 48, 56, 32, 51, 48, 49, 10, 51, 55, 52, 32, 50, 66, 57, 10, 51, 56]).append ([53, 32, 65, 56, 32, 51, 48, 49, 10, 51, 56, 54, 32, 51, 57, 49, 32, 51, 48, 49, 10, 51, 57, 48, 32, 51, 66, 57, 32, 51, 48, 56, 32, 51, 48, 49, 10, 51, 65, 67, 32])).append (([51, 66, 49, 32, 51, 48, 49, 10, 52, 51, 57, 32, 52, 51, 56, 32, 51, 48, 54, 10, 52, 53, 49, 32, 52, 51, 53, 32, 51, 48, 56, 10, 54, 50, 50, 32, 54, 50, 55, 32, 54]).append ([53, 51, 10, 54, 50, 51, 32, 54, 50, 55, 32, 54, 53, 52, 10, 54, 50, 52, 32, 54, 52, 56, 32, 54, 53, 52, 10, 57, 50, 57, 32, 57, 50, 56, 32, 57, 51, 67, 10, 57, 51]))).append ((([49, 32, 57, 51, 48, 32, 57, 51, 67, 10, 57, 53, 56, 32, 57, 49, 53, 32, 57, 51, 67, 10, 49, 69, 48, 56, 32, 52, 51, 32, 51, 50, 55, 32, 51, 48, 49, 10, 49, 69]).append ([48, 57, 32, 54, 51, 32, 51, 50, 55, 32, 51, 48, 49, 10, 49, 69, 54, 57, 32, 55, 51, 32, 51, 50, 51, 32, 51, 48, 55, 10, 49, 69, 57, 66, 32, 49, 55, 70, 32, 51, 48])).append (([55, 10, 49, 69, 65, 52, 32, 52, 49, 32, 51, 48, 50, 32, 51, 48, 49, 10, 49, 69, 65, 53, 32, 54, 49, 32, 51, 48, 50, 32, 51, 48, 49, 10, 49, 69, 68, 56, 32, 52, 70]).append ([32, 51, 50, 51, 32, 51, 48, 50, 10, 49, 69, 68, 57, 32, 54, 70, 32, 51, 50, 51, 32, 51, 48, 50, 10, 49, 70, 48, 48, 32, 51, 66, 49, 32, 51, 49, 51, 10, 49, 70, 48])))).append (((([49, 32, 51, 66, 49, 32, 51, 49, 52, 10, 49, 70, 48, 50, 32, 51, 66, 49, 32, 51, 49, 51, 32, 51, 48, 48, 10, 49, 70, 55, 49, 32, 51, 66, 49, 32, 51, 48, 49, 10]).append ([49, 70, 56, 50, 32, 51, 66, 49, 32, 51, 49, 51, 32, 51, 48, 48, 32, 51, 52, 53, 10, 49, 70, 69, 70, 32, 54, 48, 10, 50, 48, 48, 48, 32, 50, 48, 48, 50, 10, 50, 48])).append (([48, 49, 32, 50, 48, 48, 51, 10, 50, 49, 50, 54, 32, 51, 65, 57, 10, 50, 49, 50, 65, 32, 52, 66, 10, 50, 49, 50, 66, 32, 52, 49, 32, 51, 48, 65, 10, 50, 50, 54, 48]).append ([32, 51, 68, 32, 51, 51, 56, 10, 50, 65, 68, 67, 32, 50, 65, 68, 68, 32, 51, 51, 56, 10, 51, 48, 52, 67, 32, 51, 48, 52, 66, 32, 51, 48, 57, 57, 10, 51, 48, 55, 48]))).append ((([32, 51, 48, 54, 70, 32, 51, 48, 57, 57, 10, 51, 48, 55, 49, 32, 51, 48, 54, 70, 32, 51, 48, 57, 65, 10, 70, 57, 48, 48, 32, 56, 67, 52, 56, 10, 70, 66, 49, 68]).append ([32, 53, 68, 57, 32, 53, 66, 52, 10, 70, 66, 50, 65, 32, 53, 69, 57, 32, 53, 67, 49, 10, 70, 66, 50, 66, 32, 53, 69, 57, 32, 53, 67, 50, 10, 70, 66, 50, 67, 32, 53])).append (([69, 57, 32, 53, 66, 67, 32, 53, 67, 49, 10, 49, 68, 49, 53, 69, 32, 49, 68, 49, 53, 55, 32, 49, 68, 49, 54, 53, 10, 49, 68, 49, 53, 70, 32, 49, 68, 49, 53, 56, 32]).append ([49, 68, 49, 54, 53, 10, 49, 68, 49, 54, 48, 32, 49, 68, 49, 53, 56, 32, 49, 68, 49, 54, 53, 32, 49, 68, 49, 54, 69, 10, 50, 70, 56, 48, 48, 32, 52, 69, 51, 68, 10])))))).toArray } := rfl

/-! ### ucd_line: function 47 -/
def ucd_line.l0 : Nat → ByteArray → Int → Option (Int)
  | 0, _, _ => none
  | k + 1, x0, x1 => if x1 < (x0.size : Int) then (if 0 ≤ x1 then (if (bt x0 x1) = 10 then (some (wrap64 (x1 + 1))) else (ucd_line.l0 k x0 (wrap64 (x1 + 1)))) else (none)) else (some (wrap64 (x1 + 1)))
def ucd_line.f (k : Nat) (a0 : ByteArray) (a1 : Int) : Option (Int) := ucd_line.l0 k a0 a1
theorem ucd_line.mono_l : ∀ k, (∀ y0 y1, LeO (ucd_line.l0 k y0 y1) (ucd_line.l0 (k + 1) y0 y1))
  | 0 => fun _ _ r h => by simp [ucd_line.l0] at h
  | k + 1 => by
    have ih0 := ucd_line.mono_l k
    · intro y0 y1
      unfold ucd_line.l0
      repeat' first
      | (with_reducible exact ih0 _ _)
      | (with_reducible exact LeO.refl _)
      | (with_reducible exact LeO.none _)
      | (with_reducible refine LeO.ite ?_ ?_)
      | (with_reducible refine LeO.bind ?_ (fun _ => ?_))
      | exact ih0 _ _
      | exact LeO.none _
      | refine LeO.ite ?_ ?_
      | refine LeO.bind ?_ (fun _ => ?_)
theorem ucd_line.mono : ∀ a0 a1 k, LeO (ucd_line.f k a0 a1) (ucd_line.f (k + 1) a0 a1) := by
  intro a0 a1 k
  have ih0 := ucd_line.mono_l k
  unfold ucd_line.f
  repeat' first
      | (with_reducible exact ih0 _ _)
      | (with_reducible exact LeO.refl _)
      | (with_reducible exact LeO.none _)
      | (with_reducible refine LeO.ite ?_ ?_)
      | (with_reducible refine LeO.bind ?_ (fun _ => ?_))
      | exact ih0 _ _
      | exact LeO.none _
      | refine LeO.ite ?_ ?_
      | refine LeO.bind ?_ (fun _ => ?_)
set_option maxHeartbeats 80000000 in
set_option maxRecDepth 100000 in
theorem ucd_line.calls (k : Nat) (a0 : ByteArray) (a1 : Int) (r : Int) (w : World) (h : ucd_line.f k a0 a1 = some r) :
    Calls Try.prog 47 #[.string a0, .int .i64 a1] w fun e w' => e = .returned (.int .i64 r) ∧ Drawn0 w w' := by
  have H : (ucd_line.l0 k a0 a1) = some r := h
  clear h
  have H' := Aside0.mk H
  clear H
  go_enter Try.func47, Try.ntmps47
  go_wp2
  go_loopg [1] k (fun kq v1 w' => ∃ (x1_1 : Int), v1 = .int .i64 x1_1 ∧ Aside0 (ucd_line.l0 kq a0 x1_1 = some r) ∧ Aside0 (kq ≤ k) ∧ Drawn0 w w')
  case atStart => exact ⟨(a1), (by first | rfl | (simp; done) | (simp [*]; done)), H', ⟨Nat.le_refl _⟩, by repeat (first | exact Drawn0.refl _ | apply Drawn0.step)⟩
  case round =>
    clear H'
    try clear p2
    obtain ⟨x1_1, rfl, HA, HK1, ⟨m1, rfl⟩⟩ := hrel
    cases gk with
    | zero => exact absurd HA.out (by simp [ucd_line.l0])
    | succ k1 =>
      have H := HA.out
      clear HA
      simp only [ucd_line.l0] at H
      by_cases c3 : x1_1 < (a0.size : Int)
      · rw [if_pos c3] at H
        have c3b0 : decide (x1_1 < (a0.size : Int)) = true := decide_eq_true c3
        clear c3
        by_cases c4 : 0 ≤ x1_1
        · rw [if_pos c4] at H
          have c4b0 : decide (0 ≤ x1_1) = true := decide_eq_true c4
          clear c4
          by_cases c6 : (bt a0 x1_1) = 10
          · rw [if_pos c6] at H
            have c6b0 : ((bt a0 x1_1) == 10) = true := beq_iff_eq.mpr c6
            have c6b1 : ((bt a0 x1_1) != 10) = false := bne_eq_false_iff_eq.mpr c6
            clear c6
            obtain rfl := Option.some.inj H
            simp only [Option.some.injEq, Prod.mk.injEq] at H
            obtain ⟨rfl⟩ := H
            have p5 : 0 ≤ (x1_1 : Int) := of_decide_eq_true (by first | (with_reducible assumption) | assumption)
            have q5 : x1_1 < (a0.size : Int) := of_decide_eq_true (by first | (with_reducible assumption) | assumption)
            have hx5 := bt_at a0 x1_1
            replace p5 := eq_true p5
            replace q5 := eq_true q5
            go_wp2
            go_ret
            exact ⟨by first | rfl | (simp; done) | (simp [*]; done), by repeat (first | exact Drawn0.refl _ | apply Drawn0.step)⟩
          · rw [if_neg c6] at H
            have c6b0 : ((bt a0 x1_1) == 10) = false := beq_eq_false_iff_ne.mpr c6
            have c6b1 : ((bt a0 x1_1) != 10) = true := bne_iff_ne.mpr c6
            have H' := Aside0.mk H
            clear H
            have p5 : 0 ≤ (x1_1 : Int) := of_decide_eq_true (by first | (with_reducible assumption) | assumption)
            have q5 : x1_1 < (a0.size : Int) := of_decide_eq_true (by first | (with_reducible assumption) | assumption)
            have hx5 := bt_at a0 x1_1
            replace p5 := eq_true p5
            replace q5 := eq_true q5
            go_wp2
            go_roundg k1
            case measure => have := HK1.out; omega
            case rel => exact ⟨(wrap64 (x1_1 + 1)), (by first | rfl | (simp; done) | (simp [*]; done)), H', ⟨by have := HK1.out; omega⟩, by repeat (first | exact Drawn0.refl _ | apply Drawn0.step)⟩
        · rw [if_neg c4] at H
          exact absurd H (by simp)
      · rw [if_neg c3] at H
        have c3b0 : decide (x1_1 < (a0.size : Int)) = false := decide_eq_false c3
        clear c3
        obtain rfl := Option.some.inj H
        simp only [Option.some.injEq, Prod.mk.injEq] at H
        obtain ⟨rfl⟩ := H
        go_wp2
        go_ret
        exact ⟨by first | rfl | (simp; done) | (simp [*]; done), by repeat (first | exact Drawn0.refl _ | apply Drawn0.step)⟩

/-! ### ucd_hex: function 48 -/
mutual
def ucd_hex.l0 : Nat → ByteArray → Int → Int → Option (Int × Int)
  | 0, _, _, _ => none
  | k + 1, x0, x1, x6 => if x1 < (x0.size : Int) then (if 0 ≤ x1 then (if (wrap64 (bt x0 x1)) ≥ 48 then (ucd_hex.j1 k x0 x1 x6 (wrap64 (bt x0 x1)) (decide ((wrap64 (bt x0 x1)) ≤ 57))) else (ucd_hex.j1 k x0 x1 x6 (wrap64 (bt x0 x1)) false)) else (none)) else (some (x6, x1))
def ucd_hex.j1 : Nat → ByteArray → Int → Int → Int → Bool → Option (Int × Int)
  | 0, _, _, _, _, _ => none
  | k + 1, x0, x1, x6, x7, x18 => if x18 = true then (ucd_hex.l0 k x0 (wrap64 (x1 + 1)) (Go.bits .or .i64 (wrap64 (x6 * 16)) (wrap64 (x7 - 48)))) else (if x7 ≥ 65 then (if x7 ≤ 70 then (ucd_hex.l0 k x0 (wrap64 (x1 + 1)) (Go.bits .or .i64 (wrap64 (x6 * 16)) (wrap64 ((wrap64 (x7 - 65)) + 10)))) else (some (x6, x1))) else (some (x6, x1)))
end
def ucd_hex.f (k : Nat) (a0 : ByteArray) (a1 : Int) : Option (Int × Int) := ucd_hex.l0 k a0 a1 0
theorem ucd_hex.mono_l : ∀ k, (∀ y0 y1 y2, LeO (ucd_hex.l0 k y0 y1 y2) (ucd_hex.l0 (k + 1) y0 y1 y2)) ∧ (∀ y0 y1 y2 y3 y4, LeO (ucd_hex.j1 k y0 y1 y2 y3 y4) (ucd_hex.j1 (k + 1) y0 y1 y2 y3 y4))
  | 0 => ⟨fun _ _ _ r h => by simp [ucd_hex.l0] at h, fun _ _ _ _ _ r h => by simp [ucd_hex.j1] at h⟩
  | k + 1 => by
    obtain ⟨ih0, ih1⟩ := ucd_hex.mono_l k
    refine ⟨?_, ?_⟩
    · intro y0 y1 y2
      unfold ucd_hex.l0
      repeat' first
      | (with_reducible exact ih0 _ _ _)
      | (with_reducible exact ih1 _ _ _ _ _)
      | (with_reducible exact LeO.refl _)
      | (with_reducible exact LeO.none _)
      | (with_reducible refine LeO.ite ?_ ?_)
      | (with_reducible refine LeO.bind ?_ (fun _ => ?_))
      | exact ih0 _ _ _
      | exact ih1 _ _ _ _ _
      | exact LeO.none _
      | refine LeO.ite ?_ ?_
      | refine LeO.bind ?_ (fun _ => ?_)
    · intro y0 y1 y2 y3 y4
      unfold ucd_hex.j1
      repeat' first
      | (with_reducible exact ih0 _ _ _)
      | (with_reducible exact ih1 _ _ _ _ _)
      | (with_reducible exact LeO.refl _)
      | (with_reducible exact LeO.none _)
      | (with_reducible refine LeO.ite ?_ ?_)
      | (with_reducible refine LeO.bind ?_ (fun _ => ?_))
      | exact ih0 _ _ _
      | exact ih1 _ _ _ _ _
      | exact LeO.none _
      | refine LeO.ite ?_ ?_
      | refine LeO.bind ?_ (fun _ => ?_)
theorem ucd_hex.mono : ∀ a0 a1 k, LeO (ucd_hex.f k a0 a1) (ucd_hex.f (k + 1) a0 a1) := by
  intro a0 a1 k
  obtain ⟨ih0, ih1⟩ := ucd_hex.mono_l k
  unfold ucd_hex.f
  repeat' first
      | (with_reducible exact ih0 _ _ _)
      | (with_reducible exact ih1 _ _ _ _ _)
      | (with_reducible exact LeO.refl _)
      | (with_reducible exact LeO.none _)
      | (with_reducible refine LeO.ite ?_ ?_)
      | (with_reducible refine LeO.bind ?_ (fun _ => ?_))
      | exact ih0 _ _ _
      | exact ih1 _ _ _ _ _
      | exact LeO.none _
      | refine LeO.ite ?_ ?_
      | refine LeO.bind ?_ (fun _ => ?_)
set_option maxHeartbeats 80000000 in
set_option maxRecDepth 100000 in
theorem ucd_hex.calls (k : Nat) (a0 : ByteArray) (a1 : Int) (r1 : Int) (r2 : Int) (w : World) (h : ucd_hex.f k a0 a1 = some (r1, r2)) :
    Calls Try.prog 48 #[.string a0, .int .i64 a1] w fun e w' => e = .returned (.tuple #[.int .i64 r1, .int .i64 r2]) ∧ Drawn0 w w' := by
  have H : (ucd_hex.l0 k a0 a1 0) = some (r1, r2) := h
  clear h
  have H' := Aside0.mk H
  clear H
  go_enter Try.func48, Try.ntmps48
  go_wp2
  go_loopg [1, 6] k (fun kq v1 v6 w' => ∃ (x1_1 : Int) (x6_1 : Int), v1 = .int .i64 x1_1 ∧ v6 = .int .i64 x6_1 ∧ Aside0 (ucd_hex.l0 kq a0 x1_1 x6_1 = some (r1, r2)) ∧ Aside0 (kq ≤ k) ∧ Drawn0 w w')
  case atStart => exact ⟨(a1), (0), (by first | rfl | (simp; done) | (simp [*]; done)), (by first | rfl | (simp; done) | (simp [*]; done)), H', ⟨Nat.le_refl _⟩, by repeat (first | exact Drawn0.refl _ | apply Drawn0.step)⟩
  case round =>
    clear H'
    try clear p2
    obtain ⟨x1_1, x6_1, rfl, rfl, HA, HK1, ⟨m1, rfl⟩⟩ := hrel
    cases gk with
    | zero => exact absurd HA.out (by simp [ucd_hex.l0])
    | succ k1 =>
      have H := HA.out
      clear HA
      simp only [ucd_hex.l0] at H
      by_cases c3 : x1_1 < (a0.size : Int)
      · rw [if_pos c3] at H
        have c3b0 : decide (x1_1 < (a0.size : Int)) = true := decide_eq_true c3
        clear c3
        by_cases c4 : 0 ≤ x1_1
        · rw [if_pos c4] at H
          have c4b0 : decide (0 ≤ x1_1) = true := decide_eq_true c4
          clear c4
          have HC6 := Aside0.mk H
          clear H
          have p5 : 0 ≤ (x1_1 : Int) := of_decide_eq_true (by first | (with_reducible assumption) | assumption)
          have q5 : x1_1 < (a0.size : Int) := of_decide_eq_true (by first | (with_reducible assumption) | assumption)
          have hx5 := bt_at a0 x1_1
          replace p5 := eq_true p5
          replace q5 := eq_true q5
          go_upto_region 5 with (fail)
          go_cut [18] (fun v18 wc => ∃ (kq : Nat) (x18_5 : Bool), v18 = .bool x18_5 ∧ Aside0 (ucd_hex.j1 kq a0 x1_1 x6_1 (wrap64 (bt a0 x1_1)) x18_5 = some (r1, r2)) ∧ Aside0 (kq ≤ k1) ∧ Drawn0 w wc)
          case first =>
            have H := HC6.out
            clear HC6
            by_cases c7 : (wrap64 (bt a0 x1_1)) ≥ 48
            · rw [if_pos c7] at H
              have c7b0 : decide (48 ≤ (wrap64 (bt a0 x1_1))) = true := decide_eq_true c7
              clear c7
              (first | rw [c7b0] | (simp only [i64_w, i32_w]; rw [c7b0]) | skip)
              have H' := Aside0.mk H
              clear H
              go_wp2
              go_meet
              case rel => exact ⟨_, (decide ((wrap64 (bt a0 x1_1)) ≤ 57)), (by first | rfl | (simp; done) | (simp [*]; done)), H', ⟨by have := HK1.out; first | omega | exact Nat.le_refl _⟩, by repeat (first | exact Drawn0.refl _ | apply Drawn0.step)⟩
            · rw [if_neg c7] at H
              have c7b0 : decide (48 ≤ (wrap64 (bt a0 x1_1))) = false := decide_eq_false c7
              clear c7
              (first | rw [c7b0] | (simp only [i64_w, i32_w]; rw [c7b0]) | skip)
              have H' := Aside0.mk H
              clear H
              go_wp2
              go_meet
              case rel => exact ⟨_, (false), (by first | rfl | (simp; done) | (simp [*]; done)), H', ⟨by have := HK1.out; first | omega | exact Nat.le_refl _⟩, by repeat (first | exact Drawn0.refl _ | apply Drawn0.step)⟩
          case rest =>
            clear HC6
            try clear p2
            try clear c3
            try clear c3b0
            try clear c4
            try clear c4b0
            try clear p5
            try clear q5
            try clear hx5
            try clear p6
            try clear c7
            try clear c7b0
            try clear p2
            try clear p5
            try clear q5
            obtain ⟨kq, x18_5, rfl, HA, HJ5, ⟨mc5, rfl⟩⟩ := hcut
            cases kq with
            | zero => exact absurd HA.out (by simp [ucd_hex.j1])
            | succ kj5 =>
              have H := HA.out
              clear HA
              simp only [ucd_hex.j1] at H
              by_cases c8 : x18_5 = true
              · subst c8
                have H1 : (ucd_hex.l0 kj5 a0 (wrap64 (x1_1 + 1)) (Go.bits .or .i64 (wrap64 (x6_1 * 16)) (wrap64 ((wrap64 (bt a0 x1_1)) - 48)))) = some (r1, r2) := by rw [if_pos rfl] at H; exact H
                clear H
                have H := H1
                clear H1
                have H' := Aside0.mk H
                clear H
                go_wp2
                go_roundg kj5
                case measure => have := HK1.out; have := HJ5.out; omega
                case rel => exact ⟨(wrap64 (x1_1 + 1)), (Go.bits .or .i64 (wrap64 (x6_1 * 16)) (wrap64 ((wrap64 (bt a0 x1_1)) - 48))), (by first | rfl | (simp; done) | (simp [*]; done)), (by first | rfl | (simp; done) | (simp [*]; done)), H', ⟨by have := HK1.out; have := HJ5.out; omega⟩, by repeat (first | exact Drawn0.refl _ | apply Drawn0.step)⟩
              · replace c8 := Bool.eq_false_iff.mpr c8
                subst c8
                have H1 : (if (wrap64 (bt a0 x1_1)) ≥ 65 then (if (wrap64 (bt a0 x1_1)) ≤ 70 then (ucd_hex.l0 kj5 a0 (wrap64 (x1_1 + 1)) (Go.bits .or .i64 (wrap64 (x6_1 * 16)) (wrap64 ((wrap64 ((wrap64 (bt a0 x1_1)) - 65)) + 10)))) else (some (x6_1, x1_1))) else (some (x6_1, x1_1))) = some (r1, r2) := by rw [if_neg (show ¬ (false = true) by decide)] at H; exact H
                clear H
                have H := H1
                clear H1
                by_cases c9 : (wrap64 (bt a0 x1_1)) ≥ 65
                · rw [if_pos c9] at H
                  have c9b0 : decide (65 ≤ (wrap64 (bt a0 x1_1))) = true := decide_eq_true c9
                  clear c9
                  by_cases c10 : (wrap64 (bt a0 x1_1)) ≤ 70
                  · rw [if_pos c10] at H
                    have c10b0 : decide ((wrap64 (bt a0 x1_1)) ≤ 70) = true := decide_eq_true c10
                    clear c10
                    have H' := Aside0.mk H
                    clear H
                    go_wp2
                    go_roundg kj5
                    case measure => have := HK1.out; have := HJ5.out; omega
                    case rel => exact ⟨(wrap64 (x1_1 + 1)), (Go.bits .or .i64 (wrap64 (x6_1 * 16)) (wrap64 ((wrap64 ((wrap64 (bt a0 x1_1)) - 65)) + 10))), (by first | rfl | (simp; done) | (simp [*]; done)), (by first | rfl | (simp; done) | (simp [*]; done)), H', ⟨by have := HK1.out; have := HJ5.out; omega⟩, by repeat (first | exact Drawn0.refl _ | apply Drawn0.step)⟩
                  · rw [if_neg c10] at H
                    have c10b0 : decide ((wrap64 (bt a0 x1_1)) ≤ 70) = false := decide_eq_false c10
                    clear c10
                    simp only [Option.some.injEq, Prod.mk.injEq] at H
                    obtain ⟨rfl, rfl⟩ := H
                    go_wp2
                    go_ret2
                    exact ⟨by first | rfl | (simp; done) | (simp [*]; done), by repeat (first | exact Drawn0.refl _ | apply Drawn0.step)⟩
                · rw [if_neg c9] at H
                  have c9b0 : decide (65 ≤ (wrap64 (bt a0 x1_1))) = false := decide_eq_false c9
                  clear c9
                  simp only [Option.some.injEq, Prod.mk.injEq] at H
                  obtain ⟨rfl, rfl⟩ := H
                  go_wp2
                  go_ret2
                  exact ⟨by first | rfl | (simp; done) | (simp [*]; done), by repeat (first | exact Drawn0.refl _ | apply Drawn0.step)⟩
        · rw [if_neg c4] at H
          exact absurd H (by simp)
      · rw [if_neg c3] at H
        have c3b0 : decide (x1_1 < (a0.size : Int)) = false := decide_eq_false c3
        clear c3
        simp only [Option.some.injEq, Prod.mk.injEq] at H
        obtain ⟨rfl, rfl⟩ := H
        go_wp2
        go_ret2
        exact ⟨by first | rfl | (simp; done) | (simp [*]; done), by repeat (first | exact Drawn0.refl _ | apply Drawn0.step)⟩

/-! ### ucd_decimal: function 49 -/
def ucd_decimal.l0 : Nat → ByteArray → Int → Int → Option (Int)
  | 0, _, _, _ => none
  | k + 1, x0, x1, x5 => if x1 < (x0.size : Int) then (if 0 ≤ x1 then (if (bt x0 x1) ≥ 48 then (if (bt x0 x1) ≤ 57 then (ucd_decimal.l0 k x0 (wrap64 (x1 + 1)) (wrap64 ((wrap64 (10 * x5)) + (((bt x0 x1) - 48) % 256)))) else (some x5)) else (some x5)) else (none)) else (some x5)
def ucd_decimal.f (k : Nat) (a0 : ByteArray) (a1 : Int) : Option (Int) := ucd_decimal.l0 k a0 a1 0
theorem ucd_decimal.mono_l : ∀ k, (∀ y0 y1 y2, LeO (ucd_decimal.l0 k y0 y1 y2) (ucd_decimal.l0 (k + 1) y0 y1 y2))
  | 0 => fun _ _ _ r h => by simp [ucd_decimal.l0] at h
  | k + 1 => by
    have ih0 := ucd_decimal.mono_l k
    · intro y0 y1 y2
      unfold ucd_decimal.l0
      repeat' first
      | (with_reducible exact ih0 _ _ _)
      | (with_reducible exact LeO.refl _)
      | (with_reducible exact LeO.none _)
      | (with_reducible refine LeO.ite ?_ ?_)
      | (with_reducible refine LeO.bind ?_ (fun _ => ?_))
      | exact ih0 _ _ _
      | exact LeO.none _
      | refine LeO.ite ?_ ?_
      | refine LeO.bind ?_ (fun _ => ?_)
theorem ucd_decimal.mono : ∀ a0 a1 k, LeO (ucd_decimal.f k a0 a1) (ucd_decimal.f (k + 1) a0 a1) := by
  intro a0 a1 k
  have ih0 := ucd_decimal.mono_l k
  unfold ucd_decimal.f
  repeat' first
      | (with_reducible exact ih0 _ _ _)
      | (with_reducible exact LeO.refl _)
      | (with_reducible exact LeO.none _)
      | (with_reducible refine LeO.ite ?_ ?_)
      | (with_reducible refine LeO.bind ?_ (fun _ => ?_))
      | exact ih0 _ _ _
      | exact LeO.none _
      | refine LeO.ite ?_ ?_
      | refine LeO.bind ?_ (fun _ => ?_)
set_option maxHeartbeats 80000000 in
set_option maxRecDepth 100000 in
theorem ucd_decimal.calls (k : Nat) (a0 : ByteArray) (a1 : Int) (r : Int) (w : World) (h : ucd_decimal.f k a0 a1 = some r) :
    Calls Try.prog 49 #[.string a0, .int .i64 a1] w fun e w' => e = .returned (.int .i64 r) ∧ Drawn0 w w' := by
  have H : (ucd_decimal.l0 k a0 a1 0) = some r := h
  clear h
  have H' := Aside0.mk H
  clear H
  go_enter Try.func49, Try.ntmps49
  go_wp2
  go_loopg [1, 5] k (fun kq v1 v5 w' => ∃ (x1_1 : Int) (x5_1 : Int), v1 = .int .i64 x1_1 ∧ v5 = .int .i64 x5_1 ∧ Aside0 (ucd_decimal.l0 kq a0 x1_1 x5_1 = some r) ∧ Aside0 (kq ≤ k) ∧ Drawn0 w w')
  case atStart => exact ⟨(a1), (0), (by first | rfl | (simp; done) | (simp [*]; done)), (by first | rfl | (simp; done) | (simp [*]; done)), H', ⟨Nat.le_refl _⟩, by repeat (first | exact Drawn0.refl _ | apply Drawn0.step)⟩
  case round =>
    clear H'
    try clear p2
    obtain ⟨x1_1, x5_1, rfl, rfl, HA, HK1, ⟨m1, rfl⟩⟩ := hrel
    cases gk with
    | zero => exact absurd HA.out (by simp [ucd_decimal.l0])
    | succ k1 =>
      have H := HA.out
      clear HA
      simp only [ucd_decimal.l0] at H
      by_cases c3 : x1_1 < (a0.size : Int)
      · rw [if_pos c3] at H
        have c3b0 : decide (x1_1 < (a0.size : Int)) = true := decide_eq_true c3
        clear c3
        by_cases c4 : 0 ≤ x1_1
        · rw [if_pos c4] at H
          have c4b0 : decide (0 ≤ x1_1) = true := decide_eq_true c4
          clear c4
          by_cases c6 : (bt a0 x1_1) ≥ 48
          · rw [if_pos c6] at H
            have c6b0 : decide (48 ≤ (bt a0 x1_1)) = true := decide_eq_true c6
            clear c6
            by_cases c8 : (bt a0 x1_1) ≤ 57
            · rw [if_pos c8] at H
              have c8b0 : decide ((bt a0 x1_1) ≤ 57) = true := decide_eq_true c8
              clear c8
              have H' := Aside0.mk H
              clear H
              have p5 : 0 ≤ (x1_1 : Int) := of_decide_eq_true (by first | (with_reducible assumption) | assumption)
              have q5 : x1_1 < (a0.size : Int) := of_decide_eq_true (by first | (with_reducible assumption) | assumption)
              have hx5 := bt_at a0 x1_1
              replace p5 := eq_true p5
              replace q5 := eq_true q5
              have p7 : 0 ≤ (x1_1 : Int) := of_decide_eq_true (by first | (with_reducible assumption) | assumption)
              have q7 : x1_1 < (a0.size : Int) := of_decide_eq_true (by first | (with_reducible assumption) | assumption)
              have hx7 := bt_at a0 x1_1
              replace p7 := eq_true p7
              replace q7 := eq_true q7
              have p9 : 0 ≤ (x1_1 : Int) := of_decide_eq_true (by first | (with_reducible assumption) | assumption)
              have q9 : x1_1 < (a0.size : Int) := of_decide_eq_true (by first | (with_reducible assumption) | assumption)
              have hx9 := bt_at a0 x1_1
              replace p9 := eq_true p9
              replace q9 := eq_true q9
              go_wp2
              go_roundg k1
              case measure => have := HK1.out; omega
              case rel => exact ⟨(wrap64 (x1_1 + 1)), (wrap64 ((wrap64 (10 * x5_1)) + (((bt a0 x1_1) - 48) % 256))), (by first | rfl | (simp; done) | (simp [*]; done)), (by first | rfl | (simp; done) | (simp [*]; done)), H', ⟨by have := HK1.out; omega⟩, by repeat (first | exact Drawn0.refl _ | apply Drawn0.step)⟩
            · rw [if_neg c8] at H
              have c8b0 : decide ((bt a0 x1_1) ≤ 57) = false := decide_eq_false c8
              clear c8
              obtain rfl := Option.some.inj H
              simp only [Option.some.injEq, Prod.mk.injEq] at H
              obtain ⟨rfl⟩ := H
              have p5 : 0 ≤ (x1_1 : Int) := of_decide_eq_true (by first | (with_reducible assumption) | assumption)
              have q5 : x1_1 < (a0.size : Int) := of_decide_eq_true (by first | (with_reducible assumption) | assumption)
              have hx5 := bt_at a0 x1_1
              replace p5 := eq_true p5
              replace q5 := eq_true q5
              have p7 : 0 ≤ (x1_1 : Int) := of_decide_eq_true (by first | (with_reducible assumption) | assumption)
              have q7 : x1_1 < (a0.size : Int) := of_decide_eq_true (by first | (with_reducible assumption) | assumption)
              have hx7 := bt_at a0 x1_1
              replace p7 := eq_true p7
              replace q7 := eq_true q7
              go_wp2
              go_ret
              exact ⟨by first | rfl | (simp; done) | (simp [*]; done), by repeat (first | exact Drawn0.refl _ | apply Drawn0.step)⟩
          · rw [if_neg c6] at H
            have c6b0 : decide (48 ≤ (bt a0 x1_1)) = false := decide_eq_false c6
            clear c6
            obtain rfl := Option.some.inj H
            simp only [Option.some.injEq, Prod.mk.injEq] at H
            obtain ⟨rfl⟩ := H
            have p5 : 0 ≤ (x1_1 : Int) := of_decide_eq_true (by first | (with_reducible assumption) | assumption)
            have q5 : x1_1 < (a0.size : Int) := of_decide_eq_true (by first | (with_reducible assumption) | assumption)
            have hx5 := bt_at a0 x1_1
            replace p5 := eq_true p5
            replace q5 := eq_true q5
            go_wp2
            go_ret
            exact ⟨by first | rfl | (simp; done) | (simp [*]; done), by repeat (first | exact Drawn0.refl _ | apply Drawn0.step)⟩
        · rw [if_neg c4] at H
          exact absurd H (by simp)
      · rw [if_neg c3] at H
        have c3b0 : decide (x1_1 < (a0.size : Int)) = false := decide_eq_false c3
        clear c3
        obtain rfl := Option.some.inj H
        simp only [Option.some.injEq, Prod.mk.injEq] at H
        obtain ⟨rfl⟩ := H
        go_wp2
        go_ret
        exact ⟨by first | rfl | (simp; done) | (simp [*]; done), by repeat (first | exact Drawn0.refl _ | apply Drawn0.step)⟩

/-! ### ucd_Class: function 39 -/
def ucd_Class.l0 : Nat → Int → Int → Option (Int)
  | 0, _, _ => none
  | k + 1, x0, x3 => if x3 < 366 then ((ucd_hex.f k lit366 x3).bind fun bt101 => (if bt101.1 > x0 then (some 0) else ((ucd_hex.f k lit366 (wrap64 (bt101.2 + 1))).bind fun bt103 => (if x0 ≤ bt103.1 then ((ucd_decimal.f k lit366 (wrap64 (bt103.2 + 1))).bind fun t105 => (some t105)) else ((ucd_line.f k lit366 x3).bind fun t106 => (ucd_Class.l0 k x0 t106)))))) else (some 0)
def ucd_Class.f (k : Nat) (a0 : Int) : Option (Int) := if a0 < 768 then (some 0) else (ucd_Class.l0 k a0 0)
theorem ucd_Class.mono_l : ∀ k, (∀ y0 y1, LeO (ucd_Class.l0 k y0 y1) (ucd_Class.l0 (k + 1) y0 y1))
  | 0 => fun _ _ r h => by simp [ucd_Class.l0] at h
  | k + 1 => by
    have ih0 := ucd_Class.mono_l k
    · intro y0 y1
      unfold ucd_Class.l0
      repeat' first
      | (with_reducible exact ih0 _ _)
      | (with_reducible exact ucd_decimal.mono _ _ _)
      | (with_reducible exact ucd_hex.mono _ _ _)
      | (with_reducible exact ucd_line.mono _ _ _)
      | (with_reducible exact LeO.refl _)
      | (with_reducible exact LeO.none _)
      | (with_reducible refine LeO.ite ?_ ?_)
      | (with_reducible refine LeO.bind ?_ (fun _ => ?_))
      | exact ih0 _ _
      | exact ucd_decimal.mono _ _ _
      | exact ucd_hex.mono _ _ _
      | exact ucd_line.mono _ _ _
      | exact LeO.none _
      | refine LeO.ite ?_ ?_
      | refine LeO.bind ?_ (fun _ => ?_)
theorem ucd_Class.mono : ∀ a0 k, LeO (ucd_Class.f k a0) (ucd_Class.f (k + 1) a0) := by
  intro a0 k
  have ih0 := ucd_Class.mono_l k
  unfold ucd_Class.f
  repeat' first
      | (with_reducible exact ih0 _ _)
      | (with_reducible exact ucd_decimal.mono _ _ _)
      | (with_reducible exact ucd_hex.mono _ _ _)
      | (with_reducible exact ucd_line.mono _ _ _)
      | (with_reducible exact LeO.refl _)
      | (with_reducible exact LeO.none _)
      | (with_reducible refine LeO.ite ?_ ?_)
      | (with_reducible refine LeO.bind ?_ (fun _ => ?_))
      | exact ih0 _ _
      | exact ucd_decimal.mono _ _ _
      | exact ucd_hex.mono _ _ _
      | exact ucd_line.mono _ _ _
      | exact LeO.none _
      | refine LeO.ite ?_ ?_
      | refine LeO.bind ?_ (fun _ => ?_)
set_option maxHeartbeats 80000000 in
set_option maxRecDepth 100000 in
theorem ucd_Class.calls (k : Nat) (a0 : Int) (r : Int) (w : World) (h : ucd_Class.f k a0 = some r) :
    Calls Try.prog 39 #[.int .i64 a0] w fun e w' => e = .returned (.int .i64 r) ∧ Drawn0 w w' := by
  have H : (if a0 < 768 then (some 0) else (ucd_Class.l0 k a0 0)) = some r := h
  clear h
  by_cases c2 : a0 < 768
  · rw [if_pos c2] at H
    have c2b0 : decide (a0 < 768) = true := decide_eq_true c2
    clear c2
    obtain rfl := Option.some.inj H
    simp only [Option.some.injEq, Prod.mk.injEq] at H
    obtain ⟨rfl⟩ := H
    go_enter Try.func39, Try.ntmps39
    rw [← lit366_def]
    go_wp2
    go_ret
    exact ⟨by first | rfl | (simp; done) | (simp [*]; done), by repeat (first | exact Drawn0.refl _ | apply Drawn0.step)⟩
  · rw [if_neg c2] at H
    have c2b0 : decide (a0 < 768) = false := decide_eq_false c2
    clear c2
    have H' := Aside0.mk H
    clear H
    go_enter Try.func39, Try.ntmps39
    rw [← lit366_def]
    go_wp2
    go_loopg [3] k (fun kq v3 w' => ∃ (x3_1 : Int), v3 = .int .i64 x3_1 ∧ Aside0 (ucd_Class.l0 kq a0 x3_1 = some r) ∧ Aside0 (kq ≤ k) ∧ Drawn0 w w')
    case atStart => exact ⟨(0), (by first | rfl | (simp; done) | (simp [*]; done)), H', ⟨Nat.le_refl _⟩, by repeat (first | exact Drawn0.refl _ | apply Drawn0.step)⟩
    case round =>
      clear H'
      try clear c2
      try clear c2b0
      try clear p2
      obtain ⟨x3_1, rfl, HA, HK1, ⟨m1, rfl⟩⟩ := hrel
      cases gk with
      | zero => exact absurd HA.out (by simp [ucd_Class.l0])
      | succ k1 =>
        have H := HA.out
        clear HA
        simp only [ucd_Class.l0] at H
        by_cases c3 : x3_1 < 366
        · rw [if_pos c3] at H
          have c3b0 : decide (x3_1 < 366) = true := decide_eq_true c3
          clear c3
          replace H := Option.bind_eq_some_iff.mp H
          obtain ⟨⟨t101, t102⟩, A40, H⟩ := H
          replace H : (if t101 > a0 then (some 0) else ((ucd_hex.f k1 lit366 (wrap64 (t102 + 1))).bind fun bt103 => (if a0 ≤ bt103.1 then ((ucd_decimal.f k1 lit366 (wrap64 (bt103.2 + 1))).bind fun t105 => (some t105)) else ((ucd_line.f k1 lit366 x3_1).bind fun t106 => (ucd_Class.l0 k1 a0 t106))))) = some r := H
          have A4 := Aside0.mk A40
          clear A40
          by_cases c5 : t101 > a0
          · rw [if_pos c5] at H
            have c5b0 : decide (a0 < t101) = true := decide_eq_true c5
            clear c5
            obtain rfl := Option.some.inj H
            simp only [Option.some.injEq, Prod.mk.injEq] at H
            obtain ⟨rfl⟩ := H
            go_wp2_with (first | ((with_reducible refine gate_callee (f := 48) rfl ?_); refine goesL_ (some 15) rfl rfl Try.func48 (by kernel_rfl) rfl #[.string lit366, .int .i64 x3_1] rfl (by (try simp only [List.map_toArray, List.map_cons, List.map_nil]); first | done | rfl | (simp only [List.length_drop, List.length_take]; rfl)) ?_; (with_reducible refine (ucd_hex.calls k1 lit366 x3_1 t101 t102 _ A4.out).mono ?_); rintro e w' ⟨rfl, ⟨nd, rfl⟩⟩; refine ⟨_, rfl, ?_⟩))
            go_ret
            exact ⟨by first | rfl | (simp; done) | (simp [*]; done), by repeat (first | exact Drawn0.refl _ | apply Drawn0.step)⟩
          · rw [if_neg c5] at H
            have c5b0 : decide (a0 < t101) = false := decide_eq_false c5
            clear c5
            replace H := Option.bind_eq_some_iff.mp H
            obtain ⟨⟨t103, t104⟩, A60, H⟩ := H
            replace H : (if a0 ≤ t103 then ((ucd_decimal.f k1 lit366 (wrap64 (t104 + 1))).bind fun t105 => (some t105)) else ((ucd_line.f k1 lit366 x3_1).bind fun t106 => (ucd_Class.l0 k1 a0 t106))) = some r := H
            have A6 := Aside0.mk A60
            clear A60
            by_cases c7 : a0 ≤ t103
            · rw [if_pos c7] at H
              have c7b0 : decide (a0 ≤ t103) = true := decide_eq_true c7
              clear c7
              replace H := Option.bind_eq_some_iff.mp H
              obtain ⟨t105, A80, H⟩ := H
              replace H : (some t105) = some r := H
              have A8 := Aside0.mk A80
              clear A80
              obtain rfl := Option.some.inj H
              simp only [Option.some.injEq, Prod.mk.injEq] at H
              obtain ⟨rfl⟩ := H
              go_wp2_with (first | ((with_reducible refine gate_callee (f := 48) rfl ?_); refine goesL_ (some 15) rfl rfl Try.func48 (by kernel_rfl) rfl #[.string lit366, .int .i64 x3_1] rfl (by (try simp only [List.map_toArray, List.map_cons, List.map_nil]); first | done | rfl | (simp only [List.length_drop, List.length_take]; rfl)) ?_; (with_reducible refine (ucd_hex.calls k1 lit366 x3_1 t101 t102 _ A4.out).mono ?_); rintro e w' ⟨rfl, ⟨nd, rfl⟩⟩; refine ⟨_, rfl, ?_⟩) | ((with_reducible refine gate_callee (f := 48) rfl ?_); refine goesL_ (some 24) rfl rfl Try.func48 (by kernel_rfl) rfl #[.string lit366, .int .i64 (wrap64 (t102 + 1))] rfl (by (try simp only [List.map_toArray, List.map_cons, List.map_nil]); first | done | rfl | (simp only [List.length_drop, List.length_take]; rfl)) ?_; (with_reducible refine (ucd_hex.calls k1 lit366 (wrap64 (t102 + 1)) t103 t104 _ A6.out).mono ?_); rintro e w' ⟨rfl, ⟨nd, rfl⟩⟩; refine ⟨_, rfl, ?_⟩) | ((with_reducible refine gate_callee (f := 49) rfl ?_); refine goesL_ (some 32) rfl rfl Try.func49 (by kernel_rfl) rfl #[.string lit366, .int .i64 (wrap64 (t104 + 1))] rfl (by (try simp only [List.map_toArray, List.map_cons, List.map_nil]); first | done | rfl | (simp only [List.length_drop, List.length_take]; rfl)) ?_; (with_reducible refine (ucd_decimal.calls k1 lit366 (wrap64 (t104 + 1)) t105 _ A8.out).mono ?_); rintro e w' ⟨rfl, ⟨nd, rfl⟩⟩; refine ⟨_, rfl, ?_⟩))
              go_ret
              exact ⟨by first | rfl | (simp; done) | (simp [*]; done), by repeat (first | exact Drawn0.refl _ | apply Drawn0.step)⟩
            · rw [if_neg c7] at H
              have c7b0 : decide (a0 ≤ t103) = false := decide_eq_false c7
              clear c7
              replace H := Option.bind_eq_some_iff.mp H
              obtain ⟨t106, A90, H⟩ := H
              replace H : (ucd_Class.l0 k1 a0 t106) = some r := H
              have A9 := Aside0.mk A90
              clear A90
              have H' := Aside0.mk H
              clear H
              go_wp2_with (first | ((with_reducible refine gate_callee (f := 48) rfl ?_); refine goesL_ (some 15) rfl rfl Try.func48 (by kernel_rfl) rfl #[.string lit366, .int .i64 x3_1] rfl (by (try simp only [List.map_toArray, List.map_cons, List.map_nil]); first | done | rfl | (simp only [List.length_drop, List.length_take]; rfl)) ?_; (with_reducible refine (ucd_hex.calls k1 lit366 x3_1 t101 t102 _ A4.out).mono ?_); rintro e w' ⟨rfl, ⟨nd, rfl⟩⟩; refine ⟨_, rfl, ?_⟩) | ((with_reducible refine gate_callee (f := 48) rfl ?_); refine goesL_ (some 24) rfl rfl Try.func48 (by kernel_rfl) rfl #[.string lit366, .int .i64 (wrap64 (t102 + 1))] rfl (by (try simp only [List.map_toArray, List.map_cons, List.map_nil]); first | done | rfl | (simp only [List.length_drop, List.length_take]; rfl)) ?_; (with_reducible refine (ucd_hex.calls k1 lit366 (wrap64 (t102 + 1)) t103 t104 _ A6.out).mono ?_); rintro e w' ⟨rfl, ⟨nd, rfl⟩⟩; refine ⟨_, rfl, ?_⟩) | ((with_reducible refine gate_callee (f := 47) rfl ?_); refine goesL_ (some 12) rfl rfl Try.func47 (by kernel_rfl) rfl #[.string lit366, .int .i64 x3_1] rfl (by (try simp only [List.map_toArray, List.map_cons, List.map_nil]); first | done | rfl | (simp only [List.length_drop, List.length_take]; rfl)) ?_; (with_reducible refine (ucd_line.calls k1 lit366 x3_1 t106 _ A9.out).mono ?_); rintro e w' ⟨rfl, ⟨nd, rfl⟩⟩; refine ⟨_, rfl, ?_⟩))
              go_roundg k1
              case measure => have := HK1.out; omega
              case rel => exact ⟨(t106), (by first | rfl | (simp; done) | (simp [*]; done)), H', ⟨by have := HK1.out; omega⟩, by repeat (first | exact Drawn0.refl _ | apply Drawn0.step)⟩
        · rw [if_neg c3] at H
          have c3b0 : decide (x3_1 < 366) = false := decide_eq_false c3
          clear c3
          obtain rfl := Option.some.inj H
          simp only [Option.some.injEq, Prod.mk.injEq] at H
          obtain ⟨rfl⟩ := H
          go_wp2
          go_ret
          exact ⟨by first | rfl | (simp; done) | (simp [*]; done), by repeat (first | exact Drawn0.refl _ | apply Drawn0.step)⟩

/-! ### incipitlaw1_Ints: function 41 -/
def incipitlaw1_Ints.l0 : Nat → List Int → List Int → Int → Option (Bool)
  | 0, _, _, _ => none
  | k + 1, x0, x1, x5 => if x5 < (x0.length : Int) then (if 0 ≤ x5 then (if x5 < (x1.length : Int) then (if (rd x0 x5) = (rd x1 x5) then (incipitlaw1_Ints.l0 k x0 x1 (wrap64 (x5 + 1))) else (some false)) else (none)) else (none)) else (some true)
def incipitlaw1_Ints.f (k : Nat) (l0 : List Int) (l1 : List Int) : Option (Bool) := if (l0.length : Int) = (l1.length : Int) then (incipitlaw1_Ints.l0 k l0 l1 0) else (some false)
theorem incipitlaw1_Ints.mono_l : ∀ k, (∀ y0 y1 y2, LeO (incipitlaw1_Ints.l0 k y0 y1 y2) (incipitlaw1_Ints.l0 (k + 1) y0 y1 y2))
  | 0 => fun _ _ _ r h => by simp [incipitlaw1_Ints.l0] at h
  | k + 1 => by
    have ih0 := incipitlaw1_Ints.mono_l k
    · intro y0 y1 y2
      unfold incipitlaw1_Ints.l0
      repeat' first
      | (with_reducible exact ih0 _ _ _)
      | (with_reducible exact LeO.refl _)
      | (with_reducible exact LeO.none _)
      | (with_reducible refine LeO.ite ?_ ?_)
      | (with_reducible refine LeO.bind ?_ (fun _ => ?_))
      | exact ih0 _ _ _
      | exact LeO.none _
      | refine LeO.ite ?_ ?_
      | refine LeO.bind ?_ (fun _ => ?_)
theorem incipitlaw1_Ints.mono : ∀ a0 a1 k, LeO (incipitlaw1_Ints.f k a0 a1) (incipitlaw1_Ints.f (k + 1) a0 a1) := by
  intro a0 a1 k
  have ih0 := incipitlaw1_Ints.mono_l k
  unfold incipitlaw1_Ints.f
  repeat' first
      | (with_reducible exact ih0 _ _ _)
      | (with_reducible exact LeO.refl _)
      | (with_reducible exact LeO.none _)
      | (with_reducible refine LeO.ite ?_ ?_)
      | (with_reducible refine LeO.bind ?_ (fun _ => ?_))
      | exact ih0 _ _ _
      | exact LeO.none _
      | refine LeO.ite ?_ ?_
      | refine LeO.bind ?_ (fun _ => ?_)
set_option maxHeartbeats 80000000 in
set_option maxRecDepth 100000 in
theorem incipitlaw1_Ints.calls (k : Nat) (A0 : Option Addr) (c0 : Nat) (l0 : List Int) (A1 : Option Addr) (c1 : Nat) (l1 : List Int) (r : Bool) (w : World) (hr0 : Kd.C (Kd.int .i64) w A0 l0.length l0) (hc0 : l0.length ≤ c0) (hr1 : Kd.C (Kd.int .i64) w A1 l1.length l1) (hc1 : l1.length ≤ c1) (h : incipitlaw1_Ints.f k l0 l1 = some r) :
    Calls Try.prog 41 #[.slice A0 l0.length c0, .slice A1 l1.length c1] w fun e w' => e = .returned (.bool r) ∧ Drawn0 w w' := by
  have HR0 := Aside0.mk hr0
  have HC0 := Aside0.mk hc0
  clear hr0 hc0
  have HR1 := Aside0.mk hr1
  have HC1 := Aside0.mk hc1
  clear hr1 hc1
  have H : (if (l0.length : Int) = (l1.length : Int) then (incipitlaw1_Ints.l0 k l0 l1 0) else (some false)) = some r := h
  clear h
  by_cases c3 : (l0.length : Int) = (l1.length : Int)
  · rw [if_pos c3] at H
    have c3b0 : ((l0.length : Int) == (l1.length : Int)) = true := beq_iff_eq.mpr c3
    have c3b1 : ((l0.length : Int) != (l1.length : Int)) = false := bne_eq_false_iff_eq.mpr c3
    have c3b2 : (l0.length == l1.length) = true := by first | simpa using c3 | (simp at c3 ⊢; omega)
    clear c3
    have H' := Aside0.mk H
    clear H
    go_enter Try.func41, Try.ntmps41
    go_wp2
    repeat (go_quiet (fail); try go_wp2)
    go_loopg [5] k (fun kq v5 w' => ∃ (x5_1 : Int), v5 = .int .i64 x5_1 ∧ Aside0 (incipitlaw1_Ints.l0 kq l0 l1 x5_1 = some r) ∧ Aside0 (kq ≤ k) ∧ Drawn0 w w')
    case atStart => exact ⟨(0), (by first | rfl | (simp; done) | (simp [*]; done)), H', ⟨Nat.le_refl _⟩, by repeat (first | exact Drawn0.refl _ | apply Drawn0.step)⟩
    case round =>
      clear H'
      try clear c1
      try clear p2
      try clear c3
      try clear c3b0
      try clear c3b1
      try clear c3b2
      obtain ⟨x5_1, rfl, HA, HK1, ⟨m1, rfl⟩⟩ := hrel
      cases gk with
      | zero => exact absurd HA.out (by simp [incipitlaw1_Ints.l0])
      | succ k1 =>
        have H := HA.out
        clear HA
        simp only [incipitlaw1_Ints.l0] at H
        by_cases c4 : x5_1 < (l0.length : Int)
        · rw [if_pos c4] at H
          have c4b0 : decide (x5_1 < (l0.length : Int)) = true := decide_eq_true c4
          clear c4
          by_cases c5 : 0 ≤ x5_1
          · rw [if_pos c5] at H
            have c5b0 : decide (0 ≤ x5_1) = true := decide_eq_true c5
            clear c5
            by_cases c6 : x5_1 < (l1.length : Int)
            · rw [if_pos c6] at H
              have c6b0 : decide (x5_1 < (l1.length : Int)) = true := decide_eq_true c6
              clear c6
              by_cases c7 : (rd l0 x5_1) = (rd l1 x5_1)
              · rw [if_pos c7] at H
                have c7b0 : ((rd l0 x5_1) == (rd l1 x5_1)) = true := beq_iff_eq.mpr c7
                have c7b1 : ((rd l0 x5_1) != (rd l1 x5_1)) = false := bne_eq_false_iff_eq.mpr c7
                clear c7
                have H' := Aside0.mk H
                clear H
                have p107 : 0 ≤ (x5_1 : Int) := of_decide_eq_true (by first | (with_reducible assumption) | assumption)
                have q107 : x5_1 < (l0.length : Int) := of_decide_eq_true (by first | (with_reducible assumption) | assumption)
                obtain ⟨ad107, e107, hx107_0⟩ := Kd.at_int HR0.out x5_1 p107 q107
                cases e107
                replace p107 := eq_true p107
                replace q107 := eq_true q107
                have p108 : 0 ≤ (x5_1 : Int) := of_decide_eq_true (by first | (with_reducible assumption) | assumption)
                have q108 : x5_1 < (l1.length : Int) := of_decide_eq_true (by first | (with_reducible assumption) | assumption)
                obtain ⟨ad108, e108, hx108_0⟩ := Kd.at_int HR1.out x5_1 p108 q108
                cases e108
                replace p108 := eq_true p108
                replace q108 := eq_true q108
                go_wp2
                repeat (go_quiet (fail); try go_wp2)
                go_roundg k1
                case measure => have := HK1.out; omega
                case rel => exact ⟨(wrap64 (x5_1 + 1)), (by first | rfl | (simp; done) | (simp [*]; done)), H', ⟨by have := HK1.out; omega⟩, by repeat (first | exact Drawn0.refl _ | apply Drawn0.step)⟩
              · rw [if_neg c7] at H
                have c7b0 : ((rd l0 x5_1) == (rd l1 x5_1)) = false := beq_eq_false_iff_ne.mpr c7
                have c7b1 : ((rd l0 x5_1) != (rd l1 x5_1)) = true := bne_iff_ne.mpr c7
                obtain rfl := Option.some.inj H
                simp only [Option.some.injEq, Prod.mk.injEq] at H
                obtain ⟨rfl⟩ := H
                have p107 : 0 ≤ (x5_1 : Int) := of_decide_eq_true (by first | (with_reducible assumption) | assumption)
                have q107 : x5_1 < (l0.length : Int) := of_decide_eq_true (by first | (with_reducible assumption) | assumption)
                obtain ⟨ad107, e107, hx107_0⟩ := Kd.at_int HR0.out x5_1 p107 q107
                cases e107
                replace p107 := eq_true p107
                replace q107 := eq_true q107
                have p108 : 0 ≤ (x5_1 : Int) := of_decide_eq_true (by first | (with_reducible assumption) | assumption)
                have q108 : x5_1 < (l1.length : Int) := of_decide_eq_true (by first | (with_reducible assumption) | assumption)
                obtain ⟨ad108, e108, hx108_0⟩ := Kd.at_int HR1.out x5_1 p108 q108
                cases e108
                replace p108 := eq_true p108
                replace q108 := eq_true q108
                go_wp2
                repeat (go_quiet (fail); try go_wp2)
                go_ret
                exact ⟨by first | rfl | (simp; done) | (simp [*]; done), by repeat (first | exact Drawn0.refl _ | apply Drawn0.step)⟩
            · rw [if_neg c6] at H
              exact absurd H (by simp)
          · rw [if_neg c5] at H
            exact absurd H (by simp)
        · rw [if_neg c4] at H
          have c4b0 : decide (x5_1 < (l0.length : Int)) = false := decide_eq_false c4
          clear c4
          obtain rfl := Option.some.inj H
          simp only [Option.some.injEq, Prod.mk.injEq] at H
          obtain ⟨rfl⟩ := H
          go_wp2
          repeat (go_quiet (fail); try go_wp2)
          go_ret
          exact ⟨by first | rfl | (simp; done) | (simp [*]; done), by repeat (first | exact Drawn0.refl _ | apply Drawn0.step)⟩
  · rw [if_neg c3] at H
    have c3b0 : ((l0.length : Int) == (l1.length : Int)) = false := beq_eq_false_iff_ne.mpr c3
    have c3b1 : ((l0.length : Int) != (l1.length : Int)) = true := bne_iff_ne.mpr c3
    have c3b2 : (l0.length == l1.length) = false := by first | simpa using c3 | (simp at c3 ⊢; omega)
    obtain rfl := Option.some.inj H
    simp only [Option.some.injEq, Prod.mk.injEq] at H
    obtain ⟨rfl⟩ := H
    go_enter Try.func41, Try.ntmps41
    go_wp2
    repeat (go_quiet (fail); try go_wp2)
    go_ret
    exact ⟨by first | rfl | (simp; done) | (simp [*]; done), by repeat (first | exact Drawn0.refl _ | apply Drawn0.step)⟩

end Go.Proofs.Ythpeieieibbbgaa.MUcd
