/- The walk of IvalSets, by its tree. Printed by wip/mk_IvD.py. -/
import Derived.Test.YtaifjldpjkabjaaDoorIvBx
import Derived.Test.YtaifjldpjkabjaaDoorIvCx
namespace Go.Proofs.YtaifjldpjkabjaaDoor
open Go.RowKit Pl
open Sx (sat_call sat_chk sat_prim sat_ite sat_true sat_false sat_trueP sat_falseP sat_ret sat_row all_nil all_cons okB okS okI)

def tr_ivalSets : Sx.Tree := .chk [.lf 0, .lf 1, .lf 2, .lf 3, .lf 4, .lf 5] (.chk [.lf 6, .lf 7, .lf 8, .lf 9, .lf 10, .lf 11] (.chk [.lf 12, .lf 13, .lf 14] (.call 43 [.ag [.lf 0, .lf 1, .lf 2, .lf 3, .lf 4, .lf 5]] .one (.prim .not [.lf 15] (.ite (.lf 16) (.call 42 [] .one (.ret (.one (.lf 17)))) (.call 43 [.ag [.lf 6, .lf 7, .lf 8, .lf 9, .lf 10, .lf 11]] .one (.prim .not [.lf 17] (.ite (.lf 18) (.call 42 [] .one (.ret (.one (.lf 19)))) (.call 13 [.ag [.lf 12, .lf 13, .lf 14]] .one (.prim .not [.lf 19] (.ite (.lf 20) (.call 42 [] .one (.ret (.one (.lf 21)))) (.call 44 [.ag [.lf 0, .lf 1, .lf 2, .lf 3, .lf 4, .lf 5]] .one (.prim .not [.lf 21] (.ite (.lf 22) (.call 42 [] .one (.ret (.one (.lf 23)))) (.call 44 [.ag [.lf 6, .lf 7, .lf 8, .lf 9, .lf 10, .lf 11]] .one (.prim .not [.lf 23] (.ite (.lf 24) (.call 42 [] .one (.ret (.one (.lf 25)))) (.call 31 [.ag [.lf 12, .lf 13, .lf 14]] .one (.prim .not [.lf 25] (.ite (.lf 26) (.call 42 [] .one (.ret (.one (.lf 27)))) (.call 45 [.ag [.lf 0, .lf 1, .lf 2, .lf 3, .lf 4, .lf 5], .ag [.lf 6, .lf 7, .lf 8, .lf 9, .lf 10, .lf 11]] (.tup [(true, 6), (false, 1)]) (.chk [.lf 27, .lf 28, .lf 29, .lf 30, .lf 31, .lf 32] (.call 48 [.ag [.lf 0, .lf 1, .lf 2, .lf 3, .lf 4, .lf 5], .ag [.lf 6, .lf 7, .lf 8, .lf 9, .lf 10, .lf 11]] (.tup [(true, 6), (false, 1)]) (.chk [.lf 34, .lf 35, .lf 36, .lf 37, .lf 38, .lf 39] (.call 53 [.ag [.lf 0, .lf 1, .lf 2, .lf 3, .lf 4, .lf 5], .ag [.lf 12, .lf 13, .lf 14]] .one (.ite (.lf 41) (.call 53 [.ag [.lf 6, .lf 7, .lf 8, .lf 9, .lf 10, .lf 11], .ag [.lf 12, .lf 13, .lf 14]] .one (.prim (.bin .neq) [.lf 33, .num .i64 0] (.ite (.lf 43) (.ret (.one (.bit false))) (.call 46 [.ag [.lf 0, .lf 1, .lf 2, .lf 3, .lf 4, .lf 5], .ag [.lf 27, .lf 28, .lf 29, .lf 30, .lf 31, .lf 32]] .one (.prim .not [.lf 44] (.ite (.lf 45) (.ret (.one (.bit false))) (.call 46 [.ag [.lf 6, .lf 7, .lf 8, .lf 9, .lf 10, .lf 11], .ag [.lf 27, .lf 28, .lf 29, .lf 30, .lf 31, .lf 32]] .one (.prim .not [.lf 46] (.ite (.lf 47) (.ret (.one (.bit false))) (.prim (.bin .eql) [.lf 40, .num .i64 0] (.ite (.lf 48) (.call 53 [.ag [.lf 34, .lf 35, .lf 36, .lf 37, .lf 38, .lf 39], .ag [.lf 12, .lf 13, .lf 14]] .one (.prim (.bbin .neq) [.lf 49, .lf 42] (.ite (.lf 50) (.ret (.one (.bit false))) (.prim (.bin .neq) [.lf 40, .num .i64 0] (.ite (.lf 51) (.ite (.lf 42) (.ret (.one (.bit false))) (.call 56 [.ag [.lf 0, .lf 1, .lf 2, .lf 3, .lf 4, .lf 5], .ag [.lf 6, .lf 7, .lf 8, .lf 9, .lf 10, .lf 11]] .one (.ite (.lf 52) (.call 46 [.ag [.lf 0, .lf 1, .lf 2, .lf 3, .lf 4, .lf 5], .ag [.lf 6, .lf 7, .lf 8, .lf 9, .lf 10, .lf 11]] .one (.prim .not [.lf 53] (.ite (.lf 54) (.ret (.one (.bit false))) (.call 46 [.ag [.lf 6, .lf 7, .lf 8, .lf 9, .lf 10, .lf 11], .ag [.lf 0, .lf 1, .lf 2, .lf 3, .lf 4, .lf 5]] .one (.ite (.lf 55) (.ret (.one (.bit false))) (.call 58 [.ag [.lf 0, .lf 1, .lf 2, .lf 3, .lf 4, .lf 5], .ag [.lf 6, .lf 7, .lf 8, .lf 9, .lf 10, .lf 11]] .one (.ite (.lf 56) (.ret (.one (.bit false))) (.call 42 [] .one (.ite (.lf 57) (.call 46 [.ag [.lf 0, .lf 1, .lf 2, .lf 3, .lf 4, .lf 5], .ag [.lf 0, .lf 1, .lf 2, .lf 3, .lf 4, .lf 5]] .one (.ite (.lf 58) (.call 56 [.ag [.lf 0, .lf 1, .lf 2, .lf 3, .lf 4, .lf 5], .ag [.lf 0, .lf 1, .lf 2, .lf 3, .lf 4, .lf 5]] .one (.prim .not [.lf 59] (.ite (.lf 60) (.call 46 [.ag [.lf 0, .lf 1, .lf 2, .lf 3, .lf 4, .lf 5], .ag [.lf 6, .lf 7, .lf 8, .lf 9, .lf 10, .lf 11]] .one (.prim .not [.lf 61] (.ite (.lf 62) (.prim (.bin .eql) [.lf 40, .num .i64 0] (.ite (.lf 63) (.ret (.one (.bit true))) (.prim (.bin .eql) [.lf 40, .num .i64 5] (.ret (.one (.lf 64)))))) (.call 58 [.ag [.lf 27, .lf 28, .lf 29, .lf 30, .lf 31, .lf 32], .ag [.lf 6, .lf 7, .lf 8, .lf 9, .lf 10, .lf 11]] .one (.ite (.lf 63) (.prim (.bin .eql) [.lf 40, .num .i64 0] (.ite (.lf 64) (.call 58 [.ag [.lf 34, .lf 35, .lf 36, .lf 37, .lf 38, .lf 39], .ag [.lf 0, .lf 1, .lf 2, .lf 3, .lf 4, .lf 5]] .one (.ite (.lf 65) (.prim (.bin .eql) [.lf 40, .num .i64 0] (.ite (.lf 66) (.ret (.one (.bit true))) (.prim (.bin .eql) [.lf 40, .num .i64 5] (.ret (.one (.lf 67)))))) (.ret (.one (.bit false))))) (.ret (.one (.bit false))))) (.ret (.one (.bit false)))))))) (.ret (.one (.bit false)))))) (.ret (.one (.bit false))))) (.ret (.one (.bit false)))))))))))) (.call 42 [] .one (.ite (.lf 53) (.call 46 [.ag [.lf 0, .lf 1, .lf 2, .lf 3, .lf 4, .lf 5], .ag [.lf 0, .lf 1, .lf 2, .lf 3, .lf 4, .lf 5]] .one (.ite (.lf 54) (.call 56 [.ag [.lf 0, .lf 1, .lf 2, .lf 3, .lf 4, .lf 5], .ag [.lf 0, .lf 1, .lf 2, .lf 3, .lf 4, .lf 5]] .one (.prim .not [.lf 55] (.ite (.lf 56) (.call 46 [.ag [.lf 0, .lf 1, .lf 2, .lf 3, .lf 4, .lf 5], .ag [.lf 6, .lf 7, .lf 8, .lf 9, .lf 10, .lf 11]] .one (.prim .not [.lf 57] (.ite (.lf 58) (.prim (.bin .eql) [.lf 40, .num .i64 0] (.ite (.lf 59) (.ret (.one (.bit true))) (.prim (.bin .eql) [.lf 40, .num .i64 5] (.ret (.one (.lf 60)))))) (.call 58 [.ag [.lf 27, .lf 28, .lf 29, .lf 30, .lf 31, .lf 32], .ag [.lf 6, .lf 7, .lf 8, .lf 9, .lf 10, .lf 11]] .one (.ite (.lf 59) (.prim (.bin .eql) [.lf 40, .num .i64 0] (.ite (.lf 60) (.call 58 [.ag [.lf 34, .lf 35, .lf 36, .lf 37, .lf 38, .lf 39], .ag [.lf 0, .lf 1, .lf 2, .lf 3, .lf 4, .lf 5]] .one (.ite (.lf 61) (.prim (.bin .eql) [.lf 40, .num .i64 0] (.ite (.lf 62) (.ret (.one (.bit true))) (.prim (.bin .eql) [.lf 40, .num .i64 5] (.ret (.one (.lf 63)))))) (.ret (.one (.bit false))))) (.ret (.one (.bit false))))) (.ret (.one (.bit false)))))))) (.ret (.one (.bit false)))))) (.ret (.one (.bit false))))) (.ret (.one (.bit false)))))))) (.call 56 [.ag [.lf 0, .lf 1, .lf 2, .lf 3, .lf 4, .lf 5], .ag [.lf 6, .lf 7, .lf 8, .lf 9, .lf 10, .lf 11]] .one (.ite (.lf 52) (.call 46 [.ag [.lf 0, .lf 1, .lf 2, .lf 3, .lf 4, .lf 5], .ag [.lf 6, .lf 7, .lf 8, .lf 9, .lf 10, .lf 11]] .one (.prim .not [.lf 53] (.ite (.lf 54) (.ret (.one (.bit false))) (.call 46 [.ag [.lf 6, .lf 7, .lf 8, .lf 9, .lf 10, .lf 11], .ag [.lf 0, .lf 1, .lf 2, .lf 3, .lf 4, .lf 5]] .one (.ite (.lf 55) (.ret (.one (.bit false))) (.call 58 [.ag [.lf 0, .lf 1, .lf 2, .lf 3, .lf 4, .lf 5], .ag [.lf 6, .lf 7, .lf 8, .lf 9, .lf 10, .lf 11]] .one (.ite (.lf 56) (.ret (.one (.bit false))) (.call 42 [] .one (.ite (.lf 57) (.call 46 [.ag [.lf 0, .lf 1, .lf 2, .lf 3, .lf 4, .lf 5], .ag [.lf 0, .lf 1, .lf 2, .lf 3, .lf 4, .lf 5]] .one (.ite (.lf 58) (.call 56 [.ag [.lf 0, .lf 1, .lf 2, .lf 3, .lf 4, .lf 5], .ag [.lf 0, .lf 1, .lf 2, .lf 3, .lf 4, .lf 5]] .one (.prim .not [.lf 59] (.ite (.lf 60) (.call 46 [.ag [.lf 0, .lf 1, .lf 2, .lf 3, .lf 4, .lf 5], .ag [.lf 6, .lf 7, .lf 8, .lf 9, .lf 10, .lf 11]] .one (.prim .not [.lf 61] (.ite (.lf 62) (.prim (.bin .eql) [.lf 40, .num .i64 0] (.ite (.lf 63) (.ret (.one (.bit true))) (.prim (.bin .eql) [.lf 40, .num .i64 5] (.ret (.one (.lf 64)))))) (.call 58 [.ag [.lf 27, .lf 28, .lf 29, .lf 30, .lf 31, .lf 32], .ag [.lf 6, .lf 7, .lf 8, .lf 9, .lf 10, .lf 11]] .one (.ite (.lf 63) (.prim (.bin .eql) [.lf 40, .num .i64 0] (.ite (.lf 64) (.call 58 [.ag [.lf 34, .lf 35, .lf 36, .lf 37, .lf 38, .lf 39], .ag [.lf 0, .lf 1, .lf 2, .lf 3, .lf 4, .lf 5]] .one (.ite (.lf 65) (.prim (.bin .eql) [.lf 40, .num .i64 0] (.ite (.lf 66) (.ret (.one (.bit true))) (.prim (.bin .eql) [.lf 40, .num .i64 5] (.ret (.one (.lf 67)))))) (.ret (.one (.bit false))))) (.ret (.one (.bit false))))) (.ret (.one (.bit false)))))))) (.ret (.one (.bit false)))))) (.ret (.one (.bit false))))) (.ret (.one (.bit false)))))))))))) (.call 42 [] .one (.ite (.lf 53) (.call 46 [.ag [.lf 0, .lf 1, .lf 2, .lf 3, .lf 4, .lf 5], .ag [.lf 0, .lf 1, .lf 2, .lf 3, .lf 4, .lf 5]] .one (.ite (.lf 54) (.call 56 [.ag [.lf 0, .lf 1, .lf 2, .lf 3, .lf 4, .lf 5], .ag [.lf 0, .lf 1, .lf 2, .lf 3, .lf 4, .lf 5]] .one (.prim .not [.lf 55] (.ite (.lf 56) (.call 46 [.ag [.lf 0, .lf 1, .lf 2, .lf 3, .lf 4, .lf 5], .ag [.lf 6, .lf 7, .lf 8, .lf 9, .lf 10, .lf 11]] .one (.prim .not [.lf 57] (.ite (.lf 58) (.prim (.bin .eql) [.lf 40, .num .i64 0] (.ite (.lf 59) (.ret (.one (.bit true))) (.prim (.bin .eql) [.lf 40, .num .i64 5] (.ret (.one (.lf 60)))))) (.call 58 [.ag [.lf 27, .lf 28, .lf 29, .lf 30, .lf 31, .lf 32], .ag [.lf 6, .lf 7, .lf 8, .lf 9, .lf 10, .lf 11]] .one (.ite (.lf 59) (.prim (.bin .eql) [.lf 40, .num .i64 0] (.ite (.lf 60) (.call 58 [.ag [.lf 34, .lf 35, .lf 36, .lf 37, .lf 38, .lf 39], .ag [.lf 0, .lf 1, .lf 2, .lf 3, .lf 4, .lf 5]] .one (.ite (.lf 61) (.prim (.bin .eql) [.lf 40, .num .i64 0] (.ite (.lf 62) (.ret (.one (.bit true))) (.prim (.bin .eql) [.lf 40, .num .i64 5] (.ret (.one (.lf 63)))))) (.ret (.one (.bit false))))) (.ret (.one (.bit false))))) (.ret (.one (.bit false)))))))) (.ret (.one (.bit false)))))) (.ret (.one (.bit false))))) (.ret (.one (.bit false)))))))))))) (.prim (.bbin .neq) [.bit false, .lf 42] (.ite (.lf 49) (.ret (.one (.bit false))) (.prim (.bin .neq) [.lf 40, .num .i64 0] (.ite (.lf 50) (.ite (.lf 42) (.ret (.one (.bit false))) (.call 56 [.ag [.lf 0, .lf 1, .lf 2, .lf 3, .lf 4, .lf 5], .ag [.lf 6, .lf 7, .lf 8, .lf 9, .lf 10, .lf 11]] .one (.ite (.lf 51) (.call 46 [.ag [.lf 0, .lf 1, .lf 2, .lf 3, .lf 4, .lf 5], .ag [.lf 6, .lf 7, .lf 8, .lf 9, .lf 10, .lf 11]] .one (.prim .not [.lf 52] (.ite (.lf 53) (.ret (.one (.bit false))) (.call 46 [.ag [.lf 6, .lf 7, .lf 8, .lf 9, .lf 10, .lf 11], .ag [.lf 0, .lf 1, .lf 2, .lf 3, .lf 4, .lf 5]] .one (.ite (.lf 54) (.ret (.one (.bit false))) (.call 58 [.ag [.lf 0, .lf 1, .lf 2, .lf 3, .lf 4, .lf 5], .ag [.lf 6, .lf 7, .lf 8, .lf 9, .lf 10, .lf 11]] .one (.ite (.lf 55) (.ret (.one (.bit false))) (.call 42 [] .one (.ite (.lf 56) (.call 46 [.ag [.lf 0, .lf 1, .lf 2, .lf 3, .lf 4, .lf 5], .ag [.lf 0, .lf 1, .lf 2, .lf 3, .lf 4, .lf 5]] .one (.ite (.lf 57) (.call 56 [.ag [.lf 0, .lf 1, .lf 2, .lf 3, .lf 4, .lf 5], .ag [.lf 0, .lf 1, .lf 2, .lf 3, .lf 4, .lf 5]] .one (.prim .not [.lf 58] (.ite (.lf 59) (.call 46 [.ag [.lf 0, .lf 1, .lf 2, .lf 3, .lf 4, .lf 5], .ag [.lf 6, .lf 7, .lf 8, .lf 9, .lf 10, .lf 11]] .one (.prim .not [.lf 60] (.ite (.lf 61) (.prim (.bin .eql) [.lf 40, .num .i64 0] (.ite (.lf 62) (.ret (.one (.bit true))) (.prim (.bin .eql) [.lf 40, .num .i64 5] (.ret (.one (.lf 63)))))) (.call 58 [.ag [.lf 27, .lf 28, .lf 29, .lf 30, .lf 31, .lf 32], .ag [.lf 6, .lf 7, .lf 8, .lf 9, .lf 10, .lf 11]] .one (.ite (.lf 62) (.prim (.bin .eql) [.lf 40, .num .i64 0] (.ite (.lf 63) (.call 58 [.ag [.lf 34, .lf 35, .lf 36, .lf 37, .lf 38, .lf 39], .ag [.lf 0, .lf 1, .lf 2, .lf 3, .lf 4, .lf 5]] .one (.ite (.lf 64) (.prim (.bin .eql) [.lf 40, .num .i64 0] (.ite (.lf 65) (.ret (.one (.bit true))) (.prim (.bin .eql) [.lf 40, .num .i64 5] (.ret (.one (.lf 66)))))) (.ret (.one (.bit false))))) (.ret (.one (.bit false))))) (.ret (.one (.bit false)))))))) (.ret (.one (.bit false)))))) (.ret (.one (.bit false))))) (.ret (.one (.bit false)))))))))))) (.call 42 [] .one (.ite (.lf 52) (.call 46 [.ag [.lf 0, .lf 1, .lf 2, .lf 3, .lf 4, .lf 5], .ag [.lf 0, .lf 1, .lf 2, .lf 3, .lf 4, .lf 5]] .one (.ite (.lf 53) (.call 56 [.ag [.lf 0, .lf 1, .lf 2, .lf 3, .lf 4, .lf 5], .ag [.lf 0, .lf 1, .lf 2, .lf 3, .lf 4, .lf 5]] .one (.prim .not [.lf 54] (.ite (.lf 55) (.call 46 [.ag [.lf 0, .lf 1, .lf 2, .lf 3, .lf 4, .lf 5], .ag [.lf 6, .lf 7, .lf 8, .lf 9, .lf 10, .lf 11]] .one (.prim .not [.lf 56] (.ite (.lf 57) (.prim (.bin .eql) [.lf 40, .num .i64 0] (.ite (.lf 58) (.ret (.one (.bit true))) (.prim (.bin .eql) [.lf 40, .num .i64 5] (.ret (.one (.lf 59)))))) (.call 58 [.ag [.lf 27, .lf 28, .lf 29, .lf 30, .lf 31, .lf 32], .ag [.lf 6, .lf 7, .lf 8, .lf 9, .lf 10, .lf 11]] .one (.ite (.lf 58) (.prim (.bin .eql) [.lf 40, .num .i64 0] (.ite (.lf 59) (.call 58 [.ag [.lf 34, .lf 35, .lf 36, .lf 37, .lf 38, .lf 39], .ag [.lf 0, .lf 1, .lf 2, .lf 3, .lf 4, .lf 5]] .one (.ite (.lf 60) (.prim (.bin .eql) [.lf 40, .num .i64 0] (.ite (.lf 61) (.ret (.one (.bit true))) (.prim (.bin .eql) [.lf 40, .num .i64 5] (.ret (.one (.lf 62)))))) (.ret (.one (.bit false))))) (.ret (.one (.bit false))))) (.ret (.one (.bit false)))))))) (.ret (.one (.bit false)))))) (.ret (.one (.bit false))))) (.ret (.one (.bit false)))))))) (.call 56 [.ag [.lf 0, .lf 1, .lf 2, .lf 3, .lf 4, .lf 5], .ag [.lf 6, .lf 7, .lf 8, .lf 9, .lf 10, .lf 11]] .one (.ite (.lf 51) (.call 46 [.ag [.lf 0, .lf 1, .lf 2, .lf 3, .lf 4, .lf 5], .ag [.lf 6, .lf 7, .lf 8, .lf 9, .lf 10, .lf 11]] .one (.prim .not [.lf 52] (.ite (.lf 53) (.ret (.one (.bit false))) (.call 46 [.ag [.lf 6, .lf 7, .lf 8, .lf 9, .lf 10, .lf 11], .ag [.lf 0, .lf 1, .lf 2, .lf 3, .lf 4, .lf 5]] .one (.ite (.lf 54) (.ret (.one (.bit false))) (.call 58 [.ag [.lf 0, .lf 1, .lf 2, .lf 3, .lf 4, .lf 5], .ag [.lf 6, .lf 7, .lf 8, .lf 9, .lf 10, .lf 11]] .one (.ite (.lf 55) (.ret (.one (.bit false))) (.call 42 [] .one (.ite (.lf 56) (.call 46 [.ag [.lf 0, .lf 1, .lf 2, .lf 3, .lf 4, .lf 5], .ag [.lf 0, .lf 1, .lf 2, .lf 3, .lf 4, .lf 5]] .one (.ite (.lf 57) (.call 56 [.ag [.lf 0, .lf 1, .lf 2, .lf 3, .lf 4, .lf 5], .ag [.lf 0, .lf 1, .lf 2, .lf 3, .lf 4, .lf 5]] .one (.prim .not [.lf 58] (.ite (.lf 59) (.call 46 [.ag [.lf 0, .lf 1, .lf 2, .lf 3, .lf 4, .lf 5], .ag [.lf 6, .lf 7, .lf 8, .lf 9, .lf 10, .lf 11]] .one (.prim .not [.lf 60] (.ite (.lf 61) (.prim (.bin .eql) [.lf 40, .num .i64 0] (.ite (.lf 62) (.ret (.one (.bit true))) (.prim (.bin .eql) [.lf 40, .num .i64 5] (.ret (.one (.lf 63)))))) (.call 58 [.ag [.lf 27, .lf 28, .lf 29, .lf 30, .lf 31, .lf 32], .ag [.lf 6, .lf 7, .lf 8, .lf 9, .lf 10, .lf 11]] .one (.ite (.lf 62) (.prim (.bin .eql) [.lf 40, .num .i64 0] (.ite (.lf 63) (.call 58 [.ag [.lf 34, .lf 35, .lf 36, .lf 37, .lf 38, .lf 39], .ag [.lf 0, .lf 1, .lf 2, .lf 3, .lf 4, .lf 5]] .one (.ite (.lf 64) (.prim (.bin .eql) [.lf 40, .num .i64 0] (.ite (.lf 65) (.ret (.one (.bit true))) (.prim (.bin .eql) [.lf 40, .num .i64 5] (.ret (.one (.lf 66)))))) (.ret (.one (.bit false))))) (.ret (.one (.bit false))))) (.ret (.one (.bit false)))))))) (.ret (.one (.bit false)))))) (.ret (.one (.bit false))))) (.ret (.one (.bit false)))))))))))) (.call 42 [] .one (.ite (.lf 52) (.call 46 [.ag [.lf 0, .lf 1, .lf 2, .lf 3, .lf 4, .lf 5], .ag [.lf 0, .lf 1, .lf 2, .lf 3, .lf 4, .lf 5]] .one (.ite (.lf 53) (.call 56 [.ag [.lf 0, .lf 1, .lf 2, .lf 3, .lf 4, .lf 5], .ag [.lf 0, .lf 1, .lf 2, .lf 3, .lf 4, .lf 5]] .one (.prim .not [.lf 54] (.ite (.lf 55) (.call 46 [.ag [.lf 0, .lf 1, .lf 2, .lf 3, .lf 4, .lf 5], .ag [.lf 6, .lf 7, .lf 8, .lf 9, .lf 10, .lf 11]] .one (.prim .not [.lf 56] (.ite (.lf 57) (.prim (.bin .eql) [.lf 40, .num .i64 0] (.ite (.lf 58) (.ret (.one (.bit true))) (.prim (.bin .eql) [.lf 40, .num .i64 5] (.ret (.one (.lf 59)))))) (.call 58 [.ag [.lf 27, .lf 28, .lf 29, .lf 30, .lf 31, .lf 32], .ag [.lf 6, .lf 7, .lf 8, .lf 9, .lf 10, .lf 11]] .one (.ite (.lf 58) (.prim (.bin .eql) [.lf 40, .num .i64 0] (.ite (.lf 59) (.call 58 [.ag [.lf 34, .lf 35, .lf 36, .lf 37, .lf 38, .lf 39], .ag [.lf 0, .lf 1, .lf 2, .lf 3, .lf 4, .lf 5]] .one (.ite (.lf 60) (.prim (.bin .eql) [.lf 40, .num .i64 0] (.ite (.lf 61) (.ret (.one (.bit true))) (.prim (.bin .eql) [.lf 40, .num .i64 5] (.ret (.one (.lf 62)))))) (.ret (.one (.bit false))))) (.ret (.one (.bit false))))) (.ret (.one (.bit false)))))))) (.ret (.one (.bit false)))))) (.ret (.one (.bit false))))) (.ret (.one (.bit false)))))))))))))))))))))) (.prim (.bin .neq) [.lf 33, .num .i64 0] (.ite (.lf 42) (.ret (.one (.bit false))) (.call 46 [.ag [.lf 0, .lf 1, .lf 2, .lf 3, .lf 4, .lf 5], .ag [.lf 27, .lf 28, .lf 29, .lf 30, .lf 31, .lf 32]] .one (.prim .not [.lf 43] (.ite (.lf 44) (.ret (.one (.bit false))) (.call 46 [.ag [.lf 6, .lf 7, .lf 8, .lf 9, .lf 10, .lf 11], .ag [.lf 27, .lf 28, .lf 29, .lf 30, .lf 31, .lf 32]] .one (.prim .not [.lf 45] (.ite (.lf 46) (.ret (.one (.bit false))) (.prim (.bin .eql) [.lf 40, .num .i64 0] (.ite (.lf 47) (.call 53 [.ag [.lf 34, .lf 35, .lf 36, .lf 37, .lf 38, .lf 39], .ag [.lf 12, .lf 13, .lf 14]] .one (.prim (.bbin .neq) [.lf 48, .bit false] (.ite (.lf 49) (.ret (.one (.bit false))) (.prim (.bin .neq) [.lf 40, .num .i64 0] (.ite (.lf 50) (.call 56 [.ag [.lf 0, .lf 1, .lf 2, .lf 3, .lf 4, .lf 5], .ag [.lf 6, .lf 7, .lf 8, .lf 9, .lf 10, .lf 11]] .one (.ite (.lf 51) (.call 46 [.ag [.lf 0, .lf 1, .lf 2, .lf 3, .lf 4, .lf 5], .ag [.lf 6, .lf 7, .lf 8, .lf 9, .lf 10, .lf 11]] .one (.prim .not [.lf 52] (.ite (.lf 53) (.ret (.one (.bit false))) (.call 46 [.ag [.lf 6, .lf 7, .lf 8, .lf 9, .lf 10, .lf 11], .ag [.lf 0, .lf 1, .lf 2, .lf 3, .lf 4, .lf 5]] .one (.ite (.lf 54) (.ret (.one (.bit false))) (.call 58 [.ag [.lf 0, .lf 1, .lf 2, .lf 3, .lf 4, .lf 5], .ag [.lf 6, .lf 7, .lf 8, .lf 9, .lf 10, .lf 11]] .one (.ite (.lf 55) (.ret (.one (.bit false))) (.call 42 [] .one (.ite (.lf 56) (.call 46 [.ag [.lf 0, .lf 1, .lf 2, .lf 3, .lf 4, .lf 5], .ag [.lf 0, .lf 1, .lf 2, .lf 3, .lf 4, .lf 5]] .one (.ite (.lf 57) (.call 56 [.ag [.lf 0, .lf 1, .lf 2, .lf 3, .lf 4, .lf 5], .ag [.lf 0, .lf 1, .lf 2, .lf 3, .lf 4, .lf 5]] .one (.prim .not [.lf 58] (.ite (.lf 59) (.call 46 [.ag [.lf 0, .lf 1, .lf 2, .lf 3, .lf 4, .lf 5], .ag [.lf 6, .lf 7, .lf 8, .lf 9, .lf 10, .lf 11]] .one (.prim .not [.lf 60] (.ite (.lf 61) (.prim (.bin .eql) [.lf 40, .num .i64 0] (.ite (.lf 62) (.ret (.one (.bit true))) (.prim (.bin .eql) [.lf 40, .num .i64 5] (.ret (.one (.lf 63)))))) (.call 58 [.ag [.lf 27, .lf 28, .lf 29, .lf 30, .lf 31, .lf 32], .ag [.lf 6, .lf 7, .lf 8, .lf 9, .lf 10, .lf 11]] .one (.ite (.lf 62) (.prim (.bin .eql) [.lf 40, .num .i64 0] (.ite (.lf 63) (.call 58 [.ag [.lf 34, .lf 35, .lf 36, .lf 37, .lf 38, .lf 39], .ag [.lf 0, .lf 1, .lf 2, .lf 3, .lf 4, .lf 5]] .one (.ite (.lf 64) (.prim (.bin .eql) [.lf 40, .num .i64 0] (.ite (.lf 65) (.ret (.one (.bit true))) (.prim (.bin .eql) [.lf 40, .num .i64 5] (.ret (.one (.lf 66)))))) (.ret (.one (.bit false))))) (.ret (.one (.bit false))))) (.ret (.one (.bit false)))))))) (.ret (.one (.bit false)))))) (.ret (.one (.bit false))))) (.ret (.one (.bit false)))))))))))) (.call 42 [] .one (.ite (.lf 52) (.call 46 [.ag [.lf 0, .lf 1, .lf 2, .lf 3, .lf 4, .lf 5], .ag [.lf 0, .lf 1, .lf 2, .lf 3, .lf 4, .lf 5]] .one (.ite (.lf 53) (.call 56 [.ag [.lf 0, .lf 1, .lf 2, .lf 3, .lf 4, .lf 5], .ag [.lf 0, .lf 1, .lf 2, .lf 3, .lf 4, .lf 5]] .one (.prim .not [.lf 54] (.ite (.lf 55) (.call 46 [.ag [.lf 0, .lf 1, .lf 2, .lf 3, .lf 4, .lf 5], .ag [.lf 6, .lf 7, .lf 8, .lf 9, .lf 10, .lf 11]] .one (.prim .not [.lf 56] (.ite (.lf 57) (.prim (.bin .eql) [.lf 40, .num .i64 0] (.ite (.lf 58) (.ret (.one (.bit true))) (.prim (.bin .eql) [.lf 40, .num .i64 5] (.ret (.one (.lf 59)))))) (.call 58 [.ag [.lf 27, .lf 28, .lf 29, .lf 30, .lf 31, .lf 32], .ag [.lf 6, .lf 7, .lf 8, .lf 9, .lf 10, .lf 11]] .one (.ite (.lf 58) (.prim (.bin .eql) [.lf 40, .num .i64 0] (.ite (.lf 59) (.call 58 [.ag [.lf 34, .lf 35, .lf 36, .lf 37, .lf 38, .lf 39], .ag [.lf 0, .lf 1, .lf 2, .lf 3, .lf 4, .lf 5]] .one (.ite (.lf 60) (.prim (.bin .eql) [.lf 40, .num .i64 0] (.ite (.lf 61) (.ret (.one (.bit true))) (.prim (.bin .eql) [.lf 40, .num .i64 5] (.ret (.one (.lf 62)))))) (.ret (.one (.bit false))))) (.ret (.one (.bit false))))) (.ret (.one (.bit false)))))))) (.ret (.one (.bit false)))))) (.ret (.one (.bit false))))) (.ret (.one (.bit false))))))) (.call 56 [.ag [.lf 0, .lf 1, .lf 2, .lf 3, .lf 4, .lf 5], .ag [.lf 6, .lf 7, .lf 8, .lf 9, .lf 10, .lf 11]] .one (.ite (.lf 51) (.call 46 [.ag [.lf 0, .lf 1, .lf 2, .lf 3, .lf 4, .lf 5], .ag [.lf 6, .lf 7, .lf 8, .lf 9, .lf 10, .lf 11]] .one (.prim .not [.lf 52] (.ite (.lf 53) (.ret (.one (.bit false))) (.call 46 [.ag [.lf 6, .lf 7, .lf 8, .lf 9, .lf 10, .lf 11], .ag [.lf 0, .lf 1, .lf 2, .lf 3, .lf 4, .lf 5]] .one (.ite (.lf 54) (.ret (.one (.bit false))) (.call 58 [.ag [.lf 0, .lf 1, .lf 2, .lf 3, .lf 4, .lf 5], .ag [.lf 6, .lf 7, .lf 8, .lf 9, .lf 10, .lf 11]] .one (.ite (.lf 55) (.ret (.one (.bit false))) (.call 42 [] .one (.ite (.lf 56) (.call 46 [.ag [.lf 0, .lf 1, .lf 2, .lf 3, .lf 4, .lf 5], .ag [.lf 0, .lf 1, .lf 2, .lf 3, .lf 4, .lf 5]] .one (.ite (.lf 57) (.call 56 [.ag [.lf 0, .lf 1, .lf 2, .lf 3, .lf 4, .lf 5], .ag [.lf 0, .lf 1, .lf 2, .lf 3, .lf 4, .lf 5]] .one (.prim .not [.lf 58] (.ite (.lf 59) (.call 46 [.ag [.lf 0, .lf 1, .lf 2, .lf 3, .lf 4, .lf 5], .ag [.lf 6, .lf 7, .lf 8, .lf 9, .lf 10, .lf 11]] .one (.prim .not [.lf 60] (.ite (.lf 61) (.prim (.bin .eql) [.lf 40, .num .i64 0] (.ite (.lf 62) (.ret (.one (.bit true))) (.prim (.bin .eql) [.lf 40, .num .i64 5] (.ret (.one (.lf 63)))))) (.call 58 [.ag [.lf 27, .lf 28, .lf 29, .lf 30, .lf 31, .lf 32], .ag [.lf 6, .lf 7, .lf 8, .lf 9, .lf 10, .lf 11]] .one (.ite (.lf 62) (.prim (.bin .eql) [.lf 40, .num .i64 0] (.ite (.lf 63) (.call 58 [.ag [.lf 34, .lf 35, .lf 36, .lf 37, .lf 38, .lf 39], .ag [.lf 0, .lf 1, .lf 2, .lf 3, .lf 4, .lf 5]] .one (.ite (.lf 64) (.prim (.bin .eql) [.lf 40, .num .i64 0] (.ite (.lf 65) (.ret (.one (.bit true))) (.prim (.bin .eql) [.lf 40, .num .i64 5] (.ret (.one (.lf 66)))))) (.ret (.one (.bit false))))) (.ret (.one (.bit false))))) (.ret (.one (.bit false)))))))) (.ret (.one (.bit false)))))) (.ret (.one (.bit false))))) (.ret (.one (.bit false)))))))))))) (.call 42 [] .one (.ite (.lf 52) (.call 46 [.ag [.lf 0, .lf 1, .lf 2, .lf 3, .lf 4, .lf 5], .ag [.lf 0, .lf 1, .lf 2, .lf 3, .lf 4, .lf 5]] .one (.ite (.lf 53) (.call 56 [.ag [.lf 0, .lf 1, .lf 2, .lf 3, .lf 4, .lf 5], .ag [.lf 0, .lf 1, .lf 2, .lf 3, .lf 4, .lf 5]] .one (.prim .not [.lf 54] (.ite (.lf 55) (.call 46 [.ag [.lf 0, .lf 1, .lf 2, .lf 3, .lf 4, .lf 5], .ag [.lf 6, .lf 7, .lf 8, .lf 9, .lf 10, .lf 11]] .one (.prim .not [.lf 56] (.ite (.lf 57) (.prim (.bin .eql) [.lf 40, .num .i64 0] (.ite (.lf 58) (.ret (.one (.bit true))) (.prim (.bin .eql) [.lf 40, .num .i64 5] (.ret (.one (.lf 59)))))) (.call 58 [.ag [.lf 27, .lf 28, .lf 29, .lf 30, .lf 31, .lf 32], .ag [.lf 6, .lf 7, .lf 8, .lf 9, .lf 10, .lf 11]] .one (.ite (.lf 58) (.prim (.bin .eql) [.lf 40, .num .i64 0] (.ite (.lf 59) (.call 58 [.ag [.lf 34, .lf 35, .lf 36, .lf 37, .lf 38, .lf 39], .ag [.lf 0, .lf 1, .lf 2, .lf 3, .lf 4, .lf 5]] .one (.ite (.lf 60) (.prim (.bin .eql) [.lf 40, .num .i64 0] (.ite (.lf 61) (.ret (.one (.bit true))) (.prim (.bin .eql) [.lf 40, .num .i64 5] (.ret (.one (.lf 62)))))) (.ret (.one (.bit false))))) (.ret (.one (.bit false))))) (.ret (.one (.bit false)))))))) (.ret (.one (.bit false)))))) (.ret (.one (.bit false))))) (.ret (.one (.bit false)))))))))))) (.prim (.bbin .neq) [.bit false, .bit false] (.ite (.lf 48) (.ret (.one (.bit false))) (.prim (.bin .neq) [.lf 40, .num .i64 0] (.ite (.lf 49) (.call 56 [.ag [.lf 0, .lf 1, .lf 2, .lf 3, .lf 4, .lf 5], .ag [.lf 6, .lf 7, .lf 8, .lf 9, .lf 10, .lf 11]] .one (.ite (.lf 50) (.call 46 [.ag [.lf 0, .lf 1, .lf 2, .lf 3, .lf 4, .lf 5], .ag [.lf 6, .lf 7, .lf 8, .lf 9, .lf 10, .lf 11]] .one (.prim .not [.lf 51] (.ite (.lf 52) (.ret (.one (.bit false))) (.call 46 [.ag [.lf 6, .lf 7, .lf 8, .lf 9, .lf 10, .lf 11], .ag [.lf 0, .lf 1, .lf 2, .lf 3, .lf 4, .lf 5]] .one (.ite (.lf 53) (.ret (.one (.bit false))) (.call 58 [.ag [.lf 0, .lf 1, .lf 2, .lf 3, .lf 4, .lf 5], .ag [.lf 6, .lf 7, .lf 8, .lf 9, .lf 10, .lf 11]] .one (.ite (.lf 54) (.ret (.one (.bit false))) (.call 42 [] .one (.ite (.lf 55) (.call 46 [.ag [.lf 0, .lf 1, .lf 2, .lf 3, .lf 4, .lf 5], .ag [.lf 0, .lf 1, .lf 2, .lf 3, .lf 4, .lf 5]] .one (.ite (.lf 56) (.call 56 [.ag [.lf 0, .lf 1, .lf 2, .lf 3, .lf 4, .lf 5], .ag [.lf 0, .lf 1, .lf 2, .lf 3, .lf 4, .lf 5]] .one (.prim .not [.lf 57] (.ite (.lf 58) (.call 46 [.ag [.lf 0, .lf 1, .lf 2, .lf 3, .lf 4, .lf 5], .ag [.lf 6, .lf 7, .lf 8, .lf 9, .lf 10, .lf 11]] .one (.prim .not [.lf 59] (.ite (.lf 60) (.prim (.bin .eql) [.lf 40, .num .i64 0] (.ite (.lf 61) (.ret (.one (.bit true))) (.prim (.bin .eql) [.lf 40, .num .i64 5] (.ret (.one (.lf 62)))))) (.call 58 [.ag [.lf 27, .lf 28, .lf 29, .lf 30, .lf 31, .lf 32], .ag [.lf 6, .lf 7, .lf 8, .lf 9, .lf 10, .lf 11]] .one (.ite (.lf 61) (.prim (.bin .eql) [.lf 40, .num .i64 0] (.ite (.lf 62) (.call 58 [.ag [.lf 34, .lf 35, .lf 36, .lf 37, .lf 38, .lf 39], .ag [.lf 0, .lf 1, .lf 2, .lf 3, .lf 4, .lf 5]] .one (.ite (.lf 63) (.prim (.bin .eql) [.lf 40, .num .i64 0] (.ite (.lf 64) (.ret (.one (.bit true))) (.prim (.bin .eql) [.lf 40, .num .i64 5] (.ret (.one (.lf 65)))))) (.ret (.one (.bit false))))) (.ret (.one (.bit false))))) (.ret (.one (.bit false)))))))) (.ret (.one (.bit false)))))) (.ret (.one (.bit false))))) (.ret (.one (.bit false)))))))))))) (.call 42 [] .one (.ite (.lf 51) (.call 46 [.ag [.lf 0, .lf 1, .lf 2, .lf 3, .lf 4, .lf 5], .ag [.lf 0, .lf 1, .lf 2, .lf 3, .lf 4, .lf 5]] .one (.ite (.lf 52) (.call 56 [.ag [.lf 0, .lf 1, .lf 2, .lf 3, .lf 4, .lf 5], .ag [.lf 0, .lf 1, .lf 2, .lf 3, .lf 4, .lf 5]] .one (.prim .not [.lf 53] (.ite (.lf 54) (.call 46 [.ag [.lf 0, .lf 1, .lf 2, .lf 3, .lf 4, .lf 5], .ag [.lf 6, .lf 7, .lf 8, .lf 9, .lf 10, .lf 11]] .one (.prim .not [.lf 55] (.ite (.lf 56) (.prim (.bin .eql) [.lf 40, .num .i64 0] (.ite (.lf 57) (.ret (.one (.bit true))) (.prim (.bin .eql) [.lf 40, .num .i64 5] (.ret (.one (.lf 58)))))) (.call 58 [.ag [.lf 27, .lf 28, .lf 29, .lf 30, .lf 31, .lf 32], .ag [.lf 6, .lf 7, .lf 8, .lf 9, .lf 10, .lf 11]] .one (.ite (.lf 57) (.prim (.bin .eql) [.lf 40, .num .i64 0] (.ite (.lf 58) (.call 58 [.ag [.lf 34, .lf 35, .lf 36, .lf 37, .lf 38, .lf 39], .ag [.lf 0, .lf 1, .lf 2, .lf 3, .lf 4, .lf 5]] .one (.ite (.lf 59) (.prim (.bin .eql) [.lf 40, .num .i64 0] (.ite (.lf 60) (.ret (.one (.bit true))) (.prim (.bin .eql) [.lf 40, .num .i64 5] (.ret (.one (.lf 61)))))) (.ret (.one (.bit false))))) (.ret (.one (.bit false))))) (.ret (.one (.bit false)))))))) (.ret (.one (.bit false)))))) (.ret (.one (.bit false))))) (.ret (.one (.bit false))))))) (.call 56 [.ag [.lf 0, .lf 1, .lf 2, .lf 3, .lf 4, .lf 5], .ag [.lf 6, .lf 7, .lf 8, .lf 9, .lf 10, .lf 11]] .one (.ite (.lf 50) (.call 46 [.ag [.lf 0, .lf 1, .lf 2, .lf 3, .lf 4, .lf 5], .ag [.lf 6, .lf 7, .lf 8, .lf 9, .lf 10, .lf 11]] .one (.prim .not [.lf 51] (.ite (.lf 52) (.ret (.one (.bit false))) (.call 46 [.ag [.lf 6, .lf 7, .lf 8, .lf 9, .lf 10, .lf 11], .ag [.lf 0, .lf 1, .lf 2, .lf 3, .lf 4, .lf 5]] .one (.ite (.lf 53) (.ret (.one (.bit false))) (.call 58 [.ag [.lf 0, .lf 1, .lf 2, .lf 3, .lf 4, .lf 5], .ag [.lf 6, .lf 7, .lf 8, .lf 9, .lf 10, .lf 11]] .one (.ite (.lf 54) (.ret (.one (.bit false))) (.call 42 [] .one (.ite (.lf 55) (.call 46 [.ag [.lf 0, .lf 1, .lf 2, .lf 3, .lf 4, .lf 5], .ag [.lf 0, .lf 1, .lf 2, .lf 3, .lf 4, .lf 5]] .one (.ite (.lf 56) (.call 56 [.ag [.lf 0, .lf 1, .lf 2, .lf 3, .lf 4, .lf 5], .ag [.lf 0, .lf 1, .lf 2, .lf 3, .lf 4, .lf 5]] .one (.prim .not [.lf 57] (.ite (.lf 58) (.call 46 [.ag [.lf 0, .lf 1, .lf 2, .lf 3, .lf 4, .lf 5], .ag [.lf 6, .lf 7, .lf 8, .lf 9, .lf 10, .lf 11]] .one (.prim .not [.lf 59] (.ite (.lf 60) (.prim (.bin .eql) [.lf 40, .num .i64 0] (.ite (.lf 61) (.ret (.one (.bit true))) (.prim (.bin .eql) [.lf 40, .num .i64 5] (.ret (.one (.lf 62)))))) (.call 58 [.ag [.lf 27, .lf 28, .lf 29, .lf 30, .lf 31, .lf 32], .ag [.lf 6, .lf 7, .lf 8, .lf 9, .lf 10, .lf 11]] .one (.ite (.lf 61) (.prim (.bin .eql) [.lf 40, .num .i64 0] (.ite (.lf 62) (.call 58 [.ag [.lf 34, .lf 35, .lf 36, .lf 37, .lf 38, .lf 39], .ag [.lf 0, .lf 1, .lf 2, .lf 3, .lf 4, .lf 5]] .one (.ite (.lf 63) (.prim (.bin .eql) [.lf 40, .num .i64 0] (.ite (.lf 64) (.ret (.one (.bit true))) (.prim (.bin .eql) [.lf 40, .num .i64 5] (.ret (.one (.lf 65)))))) (.ret (.one (.bit false))))) (.ret (.one (.bit false))))) (.ret (.one (.bit false)))))))) (.ret (.one (.bit false)))))) (.ret (.one (.bit false))))) (.ret (.one (.bit false)))))))))))) (.call 42 [] .one (.ite (.lf 51) (.call 46 [.ag [.lf 0, .lf 1, .lf 2, .lf 3, .lf 4, .lf 5], .ag [.lf 0, .lf 1, .lf 2, .lf 3, .lf 4, .lf 5]] .one (.ite (.lf 52) (.call 56 [.ag [.lf 0, .lf 1, .lf 2, .lf 3, .lf 4, .lf 5], .ag [.lf 0, .lf 1, .lf 2, .lf 3, .lf 4, .lf 5]] .one (.prim .not [.lf 53] (.ite (.lf 54) (.call 46 [.ag [.lf 0, .lf 1, .lf 2, .lf 3, .lf 4, .lf 5], .ag [.lf 6, .lf 7, .lf 8, .lf 9, .lf 10, .lf 11]] .one (.prim .not [.lf 55] (.ite (.lf 56) (.prim (.bin .eql) [.lf 40, .num .i64 0] (.ite (.lf 57) (.ret (.one (.bit true))) (.prim (.bin .eql) [.lf 40, .num .i64 5] (.ret (.one (.lf 58)))))) (.call 58 [.ag [.lf 27, .lf 28, .lf 29, .lf 30, .lf 31, .lf 32], .ag [.lf 6, .lf 7, .lf 8, .lf 9, .lf 10, .lf 11]] .one (.ite (.lf 57) (.prim (.bin .eql) [.lf 40, .num .i64 0] (.ite (.lf 58) (.call 58 [.ag [.lf 34, .lf 35, .lf 36, .lf 37, .lf 38, .lf 39], .ag [.lf 0, .lf 1, .lf 2, .lf 3, .lf 4, .lf 5]] .one (.ite (.lf 59) (.prim (.bin .eql) [.lf 40, .num .i64 0] (.ite (.lf 60) (.ret (.one (.bit true))) (.prim (.bin .eql) [.lf 40, .num .i64 5] (.ret (.one (.lf 61)))))) (.ret (.one (.bit false))))) (.ret (.one (.bit false))))) (.ret (.one (.bit false)))))))) (.ret (.one (.bit false)))))) (.ret (.one (.bit false))))) (.ret (.one (.bit false)))))))))))))))))))))))))))))))))))))))))))))))
theorem tr_ivalSets_eq : Sx.treeOf Tryd.prog 11 = some tr_ivalSets := by kernel_rfl

set_option maxRecDepth 100000 in
set_option maxHeartbeats 4000000 in
theorem ivalSets_any (u v z : Value) (a b : Iv) (d : Dy) (w : World) (h_a : RdI w u a) (h_b : RdI w v b) (h_d : RdD w z d) (hT : TabAt w) :
    Calls Tryd.prog 11 #[u, v, z] w fun e w' => e = .returned (.bool true) ∧ Below w.heap.size w w' := by
  obtain ⟨A_a, n_a, c_a, B_a, m_a, k_a, rfl, r_al, r_ah⟩ := h_a
  obtain ⟨A_b, n_b, c_b, B_b, m_b, k_b, rfl, r_bl, r_bh⟩ := h_b
  have r_d := h_d
  obtain ⟨A_d, n_d, c_d, rfl, _⟩ := h_d
  refine (Sx.run (ls := [.bool a.lo.neg, .slice A_a n_a c_a, .int .i64 a.lo.e, .bool a.hi.neg, .slice B_a m_a k_a, .int .i64 a.hi.e, .bool b.lo.neg, .slice A_b n_b c_b, .int .i64 b.lo.e, .bool b.hi.neg, .slice B_b m_b k_b, .int .i64 b.hi.e, .bool d.neg, .slice A_d n_d c_d, .int .i64 d.e]) (shs := [(true, 6), (true, 6), (true, 3)]) (R := fun v _ => v = .bool true) (by kernel_rfl) tr_ivalSets_eq rfl (by decide) ?_).mono (fun e w' ⟨v, he, hv, hb⟩ => ⟨by rw [he, hv], hb⟩)
  unfold tr_ivalSets
  refine sat_chkB (by kernel_rfl) ?_
  refine sat_chkB (by kernel_rfl) ?_
  refine sat_chkB (by kernel_rfl) ?_
  refine sat_call #[.agg #[.bool a.lo.neg, .slice A_a n_a c_a, .int .i64 a.lo.e, .bool a.hi.neg, .slice B_a m_a k_a, .int .i64 a.hi.e]] (by kernel_rfl) fun w1 h1 => ?_
  refine (few5_any _ a _ (mkI (h1.rdD r_al) (h1.rdD r_ah))).mono ?_
  rintro e v1 ⟨rfl, hb1⟩
  refine ⟨hb1, [.bool (fewI a)], _, rfl, by kernel_rfl, by kernel_rfl, fun g1 => ?_⟩
  replace r_al := g1.rdD r_al; replace r_ah := g1.rdD r_ah; replace r_bl := g1.rdD r_bl; replace r_bh := g1.rdD r_bh; replace r_d := g1.rdD r_d
  clear h1 hb1
  refine sat_prim (v := .bool (!(fewI a))) (by kernel_rfl) ?_
  cases hfa : (fewI a)
  · refine sat_true (by kernel_rfl) ?_
    refine sat_call #[] (by kernel_rfl) fun w3 h3 => ?_
    refine (told5_any _ (h3.tab hT)).mono ?_
    rintro e v3 ⟨rfl, hb3⟩
    refine ⟨hb3, [.bool true], _, rfl, by kernel_rfl, by kernel_rfl, fun g3 => ?_⟩
    replace r_al := g3.rdD r_al; replace r_ah := g3.rdD r_ah; replace r_bl := g3.rdD r_bl; replace r_bh := g3.rdD r_bh; replace r_d := g3.rdD r_d
    clear h3 hb3
    exact sat_ret (.bool true) (by kernel_rfl) fun w9 h9 => rfl
  · refine sat_false (by kernel_rfl) ?_
    refine sat_call #[.agg #[.bool b.lo.neg, .slice A_b n_b c_b, .int .i64 b.lo.e, .bool b.hi.neg, .slice B_b m_b k_b, .int .i64 b.hi.e]] (by kernel_rfl) fun w3 h3 => ?_
    refine (few5_any _ b _ (mkI (h3.rdD r_bl) (h3.rdD r_bh))).mono ?_
    rintro e v3 ⟨rfl, hb3⟩
    refine ⟨hb3, [.bool (fewI b)], _, rfl, by kernel_rfl, by kernel_rfl, fun g3 => ?_⟩
    replace r_al := g3.rdD r_al; replace r_ah := g3.rdD r_ah; replace r_bl := g3.rdD r_bl; replace r_bh := g3.rdD r_bh; replace r_d := g3.rdD r_d
    clear h3 hb3
    refine sat_prim (v := .bool (!(fewI b))) (by kernel_rfl) ?_
    cases hfb : (fewI b)
    · refine sat_true (by kernel_rfl) ?_
      refine sat_call #[] (by kernel_rfl) fun w5 h5 => ?_
      refine (told5_any _ (h5.tab hT)).mono ?_
      rintro e v5 ⟨rfl, hb5⟩
      refine ⟨hb5, [.bool true], _, rfl, by kernel_rfl, by kernel_rfl, fun g5 => ?_⟩
      replace r_al := g5.rdD r_al; replace r_ah := g5.rdD r_ah; replace r_bl := g5.rdD r_bl; replace r_bh := g5.rdD r_bh; replace r_d := g5.rdD r_d
      clear h5 hb5
      exact sat_ret (.bool true) (by kernel_rfl) fun w9 h9 => rfl
    · refine sat_false (by kernel_rfl) ?_
      refine sat_call #[.agg #[.bool d.neg, .slice A_d n_d c_d, .int .i64 d.e]] (by kernel_rfl) fun w5 h5 => ?_
      refine (few2_any _ (d) _ (h5.rdD r_d)).mono ?_
      rintro e v5 ⟨rfl, hb5⟩
      refine ⟨hb5, [.bool (decide (d.m.length ≤ 70))], _, rfl, by kernel_rfl, by kernel_rfl, fun g5 => ?_⟩
      replace r_al := g5.rdD r_al; replace r_ah := g5.rdD r_ah; replace r_bl := g5.rdD r_bl; replace r_bh := g5.rdD r_bh; replace r_d := g5.rdD r_d
      clear h5 hb5
      refine sat_prim (v := .bool (!(decide (d.m.length ≤ 70)))) (by kernel_rfl) ?_
      cases hfd : (decide (d.m.length ≤ 70))
      · refine sat_true (by kernel_rfl) ?_
        refine sat_call #[] (by kernel_rfl) fun w7 h7 => ?_
        refine (told5_any _ (h7.tab hT)).mono ?_
        rintro e v7 ⟨rfl, hb7⟩
        refine ⟨hb7, [.bool true], _, rfl, by kernel_rfl, by kernel_rfl, fun g7 => ?_⟩
        replace r_al := g7.rdD r_al; replace r_ah := g7.rdD r_ah; replace r_bl := g7.rdD r_bl; replace r_bh := g7.rdD r_bh; replace r_d := g7.rdD r_d
        clear h7 hb7
        exact sat_ret (.bool true) (by kernel_rfl) fun w9 h9 => rfl
      · refine sat_false (by kernel_rfl) ?_
        refine sat_call #[.agg #[.bool a.lo.neg, .slice A_a n_a c_a, .int .i64 a.lo.e, .bool a.hi.neg, .slice B_a m_a k_a, .int .i64 a.hi.e]] (by kernel_rfl) fun w7 h7 => ?_
        refine (mayI_any _ a _ (mkI (h7.rdD r_al) (h7.rdD r_ah))).mono ?_
        rintro e v7 ⟨rfl, hb7⟩
        refine ⟨hb7, [.bool (mayI a)], _, rfl, by kernel_rfl, by kernel_rfl, fun g7 => ?_⟩
        replace r_al := g7.rdD r_al; replace r_ah := g7.rdD r_ah; replace r_bl := g7.rdD r_bl; replace r_bh := g7.rdD r_bh; replace r_d := g7.rdD r_d
        clear h7 hb7
        refine sat_prim (v := .bool (!(mayI a))) (by kernel_rfl) ?_
        cases ha : (mayI a)
        · refine sat_true (by kernel_rfl) ?_
          refine sat_call #[] (by kernel_rfl) fun w9 h9 => ?_
          refine (told5_any _ (h9.tab hT)).mono ?_
          rintro e v9 ⟨rfl, hb9⟩
          refine ⟨hb9, [.bool true], _, rfl, by kernel_rfl, by kernel_rfl, fun g9 => ?_⟩
          replace r_al := g9.rdD r_al; replace r_ah := g9.rdD r_ah; replace r_bl := g9.rdD r_bl; replace r_bh := g9.rdD r_bh; replace r_d := g9.rdD r_d
          clear h9 hb9
          exact sat_ret (.bool true) (by kernel_rfl) fun w9 h9 => rfl
        · refine sat_false (by kernel_rfl) ?_
          refine sat_call #[.agg #[.bool b.lo.neg, .slice A_b n_b c_b, .int .i64 b.lo.e, .bool b.hi.neg, .slice B_b m_b k_b, .int .i64 b.hi.e]] (by kernel_rfl) fun w9 h9 => ?_
          refine (mayI_any _ b _ (mkI (h9.rdD r_bl) (h9.rdD r_bh))).mono ?_
          rintro e v9 ⟨rfl, hb9⟩
          refine ⟨hb9, [.bool (mayI b)], _, rfl, by kernel_rfl, by kernel_rfl, fun g9 => ?_⟩
          replace r_al := g9.rdD r_al; replace r_ah := g9.rdD r_ah; replace r_bl := g9.rdD r_bl; replace r_bh := g9.rdD r_bh; replace r_d := g9.rdD r_d
          clear h9 hb9
          refine sat_prim (v := .bool (!(mayI b))) (by kernel_rfl) ?_
          cases hb : (mayI b)
          · refine sat_true (by kernel_rfl) ?_
            refine sat_call #[] (by kernel_rfl) fun w11 h11 => ?_
            refine (told5_any _ (h11.tab hT)).mono ?_
            rintro e v11 ⟨rfl, hb11⟩
            refine ⟨hb11, [.bool true], _, rfl, by kernel_rfl, by kernel_rfl, fun g11 => ?_⟩
            replace r_al := g11.rdD r_al; replace r_ah := g11.rdD r_ah; replace r_bl := g11.rdD r_bl; replace r_bh := g11.rdD r_bh; replace r_d := g11.rdD r_d
            clear h11 hb11
            exact sat_ret (.bool true) (by kernel_rfl) fun w9 h9 => rfl
          · refine sat_false (by kernel_rfl) ?_
            refine sat_call #[.agg #[.bool d.neg, .slice A_d n_d c_d, .int .i64 d.e]] (by kernel_rfl) fun w11 h11 => ?_
            refine (mayD_any _ (d) _ (h11.rdD r_d)).mono ?_
            rintro e v11 ⟨rfl, hb11⟩
            refine ⟨hb11, [.bool (mayD d)], _, rfl, by kernel_rfl, by kernel_rfl, fun g11 => ?_⟩
            replace r_al := g11.rdD r_al; replace r_ah := g11.rdD r_ah; replace r_bl := g11.rdD r_bl; replace r_bh := g11.rdD r_bh; replace r_d := g11.rdD r_d
            clear h11 hb11
            refine sat_prim (v := .bool (!(mayD d))) (by kernel_rfl) ?_
            cases hd : (mayD d)
            · refine sat_true (by kernel_rfl) ?_
              refine sat_call #[] (by kernel_rfl) fun w13 h13 => ?_
              refine (told5_any _ (h13.tab hT)).mono ?_
              rintro e v13 ⟨rfl, hb13⟩
              refine ⟨hb13, [.bool true], _, rfl, by kernel_rfl, by kernel_rfl, fun g13 => ?_⟩
              replace r_al := g13.rdD r_al; replace r_ah := g13.rdD r_ah; replace r_bl := g13.rdD r_bl; replace r_bh := g13.rdD r_bh; replace r_d := g13.rdD r_d
              clear h13 hb13
              exact sat_ret (.bool true) (by kernel_rfl) fun w9 h9 => rfl
            · refine sat_false (by kernel_rfl) ?_
              have G : G5 a b d := G5.mk' ha hb hd r_al.lim r_ah.lim r_bl.lim r_bh.lim r_d.lim
              refine sat_call #[.agg #[.bool a.lo.neg, .slice A_a n_a c_a, .int .i64 a.lo.e, .bool a.hi.neg, .slice B_a m_a k_a, .int .i64 a.hi.e], .agg #[.bool b.lo.neg, .slice A_b n_b c_b, .int .i64 b.lo.e, .bool b.hi.neg, .slice B_b m_b k_b, .int .i64 b.hi.e]] (by kernel_rfl) fun w13 h13 => ?_
              refine (hullI_any _ _ a b _ (mkI (h13.rdD r_al) (h13.rdD r_ah)) (mkI (h13.rdD r_bl) (h13.rdD r_bh))).mono ?_
              rintro e v13 ⟨⟨l_hh, g_hh, x_hh, A_hh, n_hh, c_hh, B_hh, m_hh, k_hh, h_hh, rfl, r_hhl, r_hhh⟩, hb13⟩
              obtain ⟨rfl, rfl, rfl⟩ := iv3 h_hh (hull_yes G)
              refine ⟨hb13, [.bool (leastD a.lo b.lo).neg, .slice A_hh n_hh c_hh, .int .i64 (leastD a.lo b.lo).e, .bool (greatestD a.hi b.hi).neg, .slice B_hh m_hh k_hh, .int .i64 (greatestD a.hi b.hi).e, .int .i64 0], _, rfl, by kernel_rfl, by kernel_rfl, fun g13 => ?_⟩
              replace r_al := g13.rdD r_al; replace r_ah := g13.rdD r_ah; replace r_bl := g13.rdD r_bl; replace r_bh := g13.rdD r_bh; replace r_d := g13.rdD r_d
              clear h13 hb13
              refine sat_chkB (by kernel_rfl) ?_
              cases hM : mayI (a.meet b)
              · refine sat_call #[.agg #[.bool a.lo.neg, .slice A_a n_a c_a, .int .i64 a.lo.e, .bool a.hi.neg, .slice B_a m_a k_a, .int .i64 a.hi.e], .agg #[.bool b.lo.neg, .slice A_b n_b c_b, .int .i64 b.lo.e, .bool b.hi.neg, .slice B_b m_b k_b, .int .i64 b.hi.e]] (by kernel_rfl) fun w14 h14 => ?_
                refine (meetI_any _ _ a b _ (mkI (h14.rdD r_al) (h14.rdD r_ah)) (mkI (h14.rdD r_bl) (h14.rdD r_bh))).mono ?_
                rintro e v14 ⟨⟨l_mm, g_mm, x_mm, A_mm, n_mm, c_mm, B_mm, m_mm, k_mm, h_mm, rfl, r_mml, r_mmh⟩, hb14⟩
                obtain ⟨rfl, rfl, rfl⟩ := iv3 h_mm (meet_none G hM)
                refine ⟨hb14, [.bool Dy.zero.neg, .slice A_mm n_mm c_mm, .int .i64 Dy.zero.e, .bool Dy.zero.neg, .slice B_mm m_mm k_mm, .int .i64 Dy.zero.e, .int .i64 5], _, rfl, by kernel_rfl, by kernel_rfl, fun g14 => ?_⟩
                replace r_al := g14.rdD r_al; replace r_ah := g14.rdD r_ah; replace r_bl := g14.rdD r_bl; replace r_bh := g14.rdD r_bh; replace r_d := g14.rdD r_d; replace r_hhl := g14.rdD r_hhl; replace r_hhh := g14.rdD r_hhh
                clear h14 hb14
                refine sat_chkB (by kernel_rfl) ?_
                refine sat_call #[.agg #[.bool a.lo.neg, .slice A_a n_a c_a, .int .i64 a.lo.e, .bool a.hi.neg, .slice B_a m_a k_a, .int .i64 a.hi.e], .agg #[.bool d.neg, .slice A_d n_d c_d, .int .i64 d.e]] (by kernel_rfl) fun w15 h15 => ?_
                refine (hasI_any _ _ a (d) _ (mkI (h15.rdD r_al) (h15.rdD r_ah)) (h15.rdD r_d)).mono ?_
                rintro e v15 ⟨rfl, hb15⟩
                refine ⟨hb15, [.bool (hasI a d)], _, rfl, by kernel_rfl, by kernel_rfl, fun g15 => ?_⟩
                replace r_al := g15.rdD r_al; replace r_ah := g15.rdD r_ah; replace r_bl := g15.rdD r_bl; replace r_bh := g15.rdD r_bh; replace r_d := g15.rdD r_d; replace r_hhl := g15.rdD r_hhl; replace r_hhh := g15.rdD r_hhh; replace r_mml := g15.rdD r_mml; replace r_mmh := g15.rdD r_mmh
                clear h15 hb15
                cases hA : (hasI a d)
                · refine sat_false (by kernel_rfl) ?_
                  refine sat_prim (v := .bool ((0 : Int) != 0)) (by kernel_rfl) ?_
                  refine sat_falseP (b := ((0 : Int) != 0)) (by kernel_rfl) (by decide) ?_
                  refine sat_call #[.agg #[.bool a.lo.neg, .slice A_a n_a c_a, .int .i64 a.lo.e, .bool a.hi.neg, .slice B_a m_a k_a, .int .i64 a.hi.e], .agg #[.bool (leastD a.lo b.lo).neg, .slice A_hh n_hh c_hh, .int .i64 (leastD a.lo b.lo).e, .bool (greatestD a.hi b.hi).neg, .slice B_hh m_hh k_hh, .int .i64 (greatestD a.hi b.hi).e]] (by kernel_rfl) fun w17 h17 => ?_
                  refine (withinI_any _ _ a ⟨(leastD a.lo b.lo), (greatestD a.hi b.hi)⟩ _ (mkI (h17.rdD r_al) (h17.rdD r_ah)) (mkI (h17.rdD r_hhl) (h17.rdD r_hhh))).mono ?_
                  rintro e v17 ⟨rfl, hb17⟩
                  refine ⟨hb17, [.bool (withinI a ⟨(leastD a.lo b.lo), (greatestD a.hi b.hi)⟩)], _, rfl, by kernel_rfl, by kernel_rfl, fun g17 => ?_⟩
                  replace r_al := g17.rdD r_al; replace r_ah := g17.rdD r_ah; replace r_bl := g17.rdD r_bl; replace r_bh := g17.rdD r_bh; replace r_d := g17.rdD r_d; replace r_hhl := g17.rdD r_hhl; replace r_hhh := g17.rdD r_hhh; replace r_mml := g17.rdD r_mml; replace r_mmh := g17.rdD r_mmh
                  clear h17 hb17
                  refine sat_prim (v := .bool (!(withinI a ⟨(leastD a.lo b.lo), (greatestD a.hi b.hi)⟩))) (by kernel_rfl) ?_
                  refine sat_falseP (b := (!(withinI a ⟨(leastD a.lo b.lo), (greatestD a.hi b.hi)⟩))) (by kernel_rfl) (by rw [show (withinI a ⟨(leastD a.lo b.lo), (greatestD a.hi b.hi)⟩) = true from within_hull1 G]; rfl) ?_
                  refine sat_call #[.agg #[.bool b.lo.neg, .slice A_b n_b c_b, .int .i64 b.lo.e, .bool b.hi.neg, .slice B_b m_b k_b, .int .i64 b.hi.e], .agg #[.bool (leastD a.lo b.lo).neg, .slice A_hh n_hh c_hh, .int .i64 (leastD a.lo b.lo).e, .bool (greatestD a.hi b.hi).neg, .slice B_hh m_hh k_hh, .int .i64 (greatestD a.hi b.hi).e]] (by kernel_rfl) fun w18 h18 => ?_
                  refine (withinI_any _ _ b ⟨(leastD a.lo b.lo), (greatestD a.hi b.hi)⟩ _ (mkI (h18.rdD r_bl) (h18.rdD r_bh)) (mkI (h18.rdD r_hhl) (h18.rdD r_hhh))).mono ?_
                  rintro e v18 ⟨rfl, hb18⟩
                  refine ⟨hb18, [.bool (withinI b ⟨(leastD a.lo b.lo), (greatestD a.hi b.hi)⟩)], _, rfl, by kernel_rfl, by kernel_rfl, fun g18 => ?_⟩
                  replace r_al := g18.rdD r_al; replace r_ah := g18.rdD r_ah; replace r_bl := g18.rdD r_bl; replace r_bh := g18.rdD r_bh; replace r_d := g18.rdD r_d; replace r_hhl := g18.rdD r_hhl; replace r_hhh := g18.rdD r_hhh; replace r_mml := g18.rdD r_mml; replace r_mmh := g18.rdD r_mmh
                  clear h18 hb18
                  refine sat_prim (v := .bool (!(withinI b ⟨(leastD a.lo b.lo), (greatestD a.hi b.hi)⟩))) (by kernel_rfl) ?_
                  refine sat_falseP (b := (!(withinI b ⟨(leastD a.lo b.lo), (greatestD a.hi b.hi)⟩))) (by kernel_rfl) (by rw [show (withinI b ⟨(leastD a.lo b.lo), (greatestD a.hi b.hi)⟩) = true from within_hull2 G]; rfl) ?_
                  refine sat_prim (v := .bool ((5 : Int) == 0)) (by kernel_rfl) ?_
                  refine sat_falseP (b := ((5 : Int) == 0)) (by kernel_rfl) (by decide) ?_
                  refine sat_prim (v := .bool (!(false == false))) (by kernel_rfl) ?_
                  refine sat_falseP (b := (!(false == false))) (by kernel_rfl) (by rw [show (false == false) = true from rfl]; rfl) ?_
                  refine sat_prim (v := .bool ((5 : Int) != 0)) (by kernel_rfl) ?_
                  refine sat_trueP (b := ((5 : Int) != 0)) (by kernel_rfl) (by decide) ?_
                  refine sat_call #[.agg #[.bool a.lo.neg, .slice A_a n_a c_a, .int .i64 a.lo.e, .bool a.hi.neg, .slice B_a m_a k_a, .int .i64 a.hi.e], .agg #[.bool b.lo.neg, .slice A_b n_b c_b, .int .i64 b.lo.e, .bool b.hi.neg, .slice B_b m_b k_b, .int .i64 b.hi.e]] (by kernel_rfl) fun w19 h19 => ?_
                  refine (insideI_any _ _ a b _ (mkI (h19.rdD r_al) (h19.rdD r_ah)) (mkI (h19.rdD r_bl) (h19.rdD r_bh))).mono ?_
                  rintro e v19 ⟨rfl, hb19⟩
                  refine ⟨hb19, [.bool (insideI a b)], _, rfl, by kernel_rfl, by kernel_rfl, fun g19 => ?_⟩
                  replace r_al := g19.rdD r_al; replace r_ah := g19.rdD r_ah; replace r_bl := g19.rdD r_bl; replace r_bh := g19.rdD r_bh; replace r_d := g19.rdD r_d; replace r_hhl := g19.rdD r_hhl; replace r_hhh := g19.rdD r_hhh; replace r_mml := g19.rdD r_mml; replace r_mmh := g19.rdD r_mmh
                  clear h19 hb19
                  refine sat_falseP (b := (insideI a b)) (by kernel_rfl) (no_inside G hM) ?_
                  refine sat_call #[] (by kernel_rfl) fun w20 h20 => ?_
                  refine (told5_any _ (h20.tab hT)).mono ?_
                  rintro e v20 ⟨rfl, hb20⟩
                  refine ⟨hb20, [.bool true], _, rfl, by kernel_rfl, by kernel_rfl, fun g20 => ?_⟩
                  replace r_al := g20.rdD r_al; replace r_ah := g20.rdD r_ah; replace r_bl := g20.rdD r_bl; replace r_bh := g20.rdD r_bh; replace r_d := g20.rdD r_d; replace r_hhl := g20.rdD r_hhl; replace r_hhh := g20.rdD r_hhh; replace r_mml := g20.rdD r_mml; replace r_mmh := g20.rdD r_mmh
                  clear h20 hb20
                  refine sat_true (by kernel_rfl) ?_
                  refine sat_call #[.agg #[.bool a.lo.neg, .slice A_a n_a c_a, .int .i64 a.lo.e, .bool a.hi.neg, .slice B_a m_a k_a, .int .i64 a.hi.e], .agg #[.bool a.lo.neg, .slice A_a n_a c_a, .int .i64 a.lo.e, .bool a.hi.neg, .slice B_a m_a k_a, .int .i64 a.hi.e]] (by kernel_rfl) fun w21 h21 => ?_
                  refine (withinI_any _ _ a a _ (mkI (h21.rdD r_al) (h21.rdD r_ah)) (mkI (h21.rdD r_al) (h21.rdD r_ah))).mono ?_
                  rintro e v21 ⟨rfl, hb21⟩
                  refine ⟨hb21, [.bool (withinI a a)], _, rfl, by kernel_rfl, by kernel_rfl, fun g21 => ?_⟩
                  replace r_al := g21.rdD r_al; replace r_ah := g21.rdD r_ah; replace r_bl := g21.rdD r_bl; replace r_bh := g21.rdD r_bh; replace r_d := g21.rdD r_d; replace r_hhl := g21.rdD r_hhl; replace r_hhh := g21.rdD r_hhh; replace r_mml := g21.rdD r_mml; replace r_mmh := g21.rdD r_mmh
                  clear h21 hb21
                  refine sat_trueP (b := (withinI a a)) (by kernel_rfl) (within_self G) ?_
                  refine sat_call #[.agg #[.bool a.lo.neg, .slice A_a n_a c_a, .int .i64 a.lo.e, .bool a.hi.neg, .slice B_a m_a k_a, .int .i64 a.hi.e], .agg #[.bool a.lo.neg, .slice A_a n_a c_a, .int .i64 a.lo.e, .bool a.hi.neg, .slice B_a m_a k_a, .int .i64 a.hi.e]] (by kernel_rfl) fun w22 h22 => ?_
                  refine (insideI_any _ _ a a _ (mkI (h22.rdD r_al) (h22.rdD r_ah)) (mkI (h22.rdD r_al) (h22.rdD r_ah))).mono ?_
                  rintro e v22 ⟨rfl, hb22⟩
                  refine ⟨hb22, [.bool (insideI a a)], _, rfl, by kernel_rfl, by kernel_rfl, fun g22 => ?_⟩
                  replace r_al := g22.rdD r_al; replace r_ah := g22.rdD r_ah; replace r_bl := g22.rdD r_bl; replace r_bh := g22.rdD r_bh; replace r_d := g22.rdD r_d; replace r_hhl := g22.rdD r_hhl; replace r_hhh := g22.rdD r_hhh; replace r_mml := g22.rdD r_mml; replace r_mmh := g22.rdD r_mmh
                  clear h22 hb22
                  refine sat_prim (v := .bool (!(insideI a a))) (by kernel_rfl) ?_
                  refine sat_trueP (b := (!(insideI a a))) (by kernel_rfl) (by rw [show (insideI a a) = false from inside_self G]; rfl) ?_
                  refine sat_call #[.agg #[.bool a.lo.neg, .slice A_a n_a c_a, .int .i64 a.lo.e, .bool a.hi.neg, .slice B_a m_a k_a, .int .i64 a.hi.e], .agg #[.bool b.lo.neg, .slice A_b n_b c_b, .int .i64 b.lo.e, .bool b.hi.neg, .slice B_b m_b k_b, .int .i64 b.hi.e]] (by kernel_rfl) fun w23 h23 => ?_
                  refine (withinI_any _ _ a b _ (mkI (h23.rdD r_al) (h23.rdD r_ah)) (mkI (h23.rdD r_bl) (h23.rdD r_bh))).mono ?_
                  rintro e v23 ⟨rfl, hb23⟩
                  refine ⟨hb23, [.bool (withinI a b)], _, rfl, by kernel_rfl, by kernel_rfl, fun g23 => ?_⟩
                  replace r_al := g23.rdD r_al; replace r_ah := g23.rdD r_ah; replace r_bl := g23.rdD r_bl; replace r_bh := g23.rdD r_bh; replace r_d := g23.rdD r_d; replace r_hhl := g23.rdD r_hhl; replace r_hhh := g23.rdD r_hhh; replace r_mml := g23.rdD r_mml; replace r_mmh := g23.rdD r_mmh
                  clear h23 hb23
                  refine sat_prim (v := .bool (!(withinI a b))) (by kernel_rfl) ?_
                  refine sat_trueP (b := (!(withinI a b))) (by kernel_rfl) (by rw [show (withinI a b) = false from no_within G hM]; rfl) ?_
                  refine sat_prim (v := .bool ((5 : Int) == 0)) (by kernel_rfl) ?_
                  refine sat_falseP (b := ((5 : Int) == 0)) (by kernel_rfl) (by decide) ?_
                  refine sat_prim (v := .bool ((5 : Int) == 5)) (by kernel_rfl) ?_
                  exact sat_ret (.bool ((5 : Int) == 5)) (by kernel_rfl) fun w9 h9 => rfl
                · refine sat_true (by kernel_rfl) ?_
                  refine sat_call #[.agg #[.bool b.lo.neg, .slice A_b n_b c_b, .int .i64 b.lo.e, .bool b.hi.neg, .slice B_b m_b k_b, .int .i64 b.hi.e], .agg #[.bool d.neg, .slice A_d n_d c_d, .int .i64 d.e]] (by kernel_rfl) fun w17 h17 => ?_
                  refine (hasI_any _ _ b (d) _ (mkI (h17.rdD r_bl) (h17.rdD r_bh)) (h17.rdD r_d)).mono ?_
                  rintro e v17 ⟨rfl, hb17⟩
                  refine ⟨hb17, [.bool (hasI b d)], _, rfl, by kernel_rfl, by kernel_rfl, fun g17 => ?_⟩
                  replace r_al := g17.rdD r_al; replace r_ah := g17.rdD r_ah; replace r_bl := g17.rdD r_bl; replace r_bh := g17.rdD r_bh; replace r_d := g17.rdD r_d; replace r_hhl := g17.rdD r_hhl; replace r_hhh := g17.rdD r_hhh; replace r_mml := g17.rdD r_mml; replace r_mmh := g17.rdD r_mmh
                  clear h17 hb17
                  refine sat_prim (v := .bool ((0 : Int) != 0)) (by kernel_rfl) ?_
                  refine sat_falseP (b := ((0 : Int) != 0)) (by kernel_rfl) (by decide) ?_
                  refine sat_call #[.agg #[.bool a.lo.neg, .slice A_a n_a c_a, .int .i64 a.lo.e, .bool a.hi.neg, .slice B_a m_a k_a, .int .i64 a.hi.e], .agg #[.bool (leastD a.lo b.lo).neg, .slice A_hh n_hh c_hh, .int .i64 (leastD a.lo b.lo).e, .bool (greatestD a.hi b.hi).neg, .slice B_hh m_hh k_hh, .int .i64 (greatestD a.hi b.hi).e]] (by kernel_rfl) fun w18 h18 => ?_
                  refine (withinI_any _ _ a ⟨(leastD a.lo b.lo), (greatestD a.hi b.hi)⟩ _ (mkI (h18.rdD r_al) (h18.rdD r_ah)) (mkI (h18.rdD r_hhl) (h18.rdD r_hhh))).mono ?_
                  rintro e v18 ⟨rfl, hb18⟩
                  refine ⟨hb18, [.bool (withinI a ⟨(leastD a.lo b.lo), (greatestD a.hi b.hi)⟩)], _, rfl, by kernel_rfl, by kernel_rfl, fun g18 => ?_⟩
                  replace r_al := g18.rdD r_al; replace r_ah := g18.rdD r_ah; replace r_bl := g18.rdD r_bl; replace r_bh := g18.rdD r_bh; replace r_d := g18.rdD r_d; replace r_hhl := g18.rdD r_hhl; replace r_hhh := g18.rdD r_hhh; replace r_mml := g18.rdD r_mml; replace r_mmh := g18.rdD r_mmh
                  clear h18 hb18
                  refine sat_prim (v := .bool (!(withinI a ⟨(leastD a.lo b.lo), (greatestD a.hi b.hi)⟩))) (by kernel_rfl) ?_
                  refine sat_falseP (b := (!(withinI a ⟨(leastD a.lo b.lo), (greatestD a.hi b.hi)⟩))) (by kernel_rfl) (by rw [show (withinI a ⟨(leastD a.lo b.lo), (greatestD a.hi b.hi)⟩) = true from within_hull1 G]; rfl) ?_
                  refine sat_call #[.agg #[.bool b.lo.neg, .slice A_b n_b c_b, .int .i64 b.lo.e, .bool b.hi.neg, .slice B_b m_b k_b, .int .i64 b.hi.e], .agg #[.bool (leastD a.lo b.lo).neg, .slice A_hh n_hh c_hh, .int .i64 (leastD a.lo b.lo).e, .bool (greatestD a.hi b.hi).neg, .slice B_hh m_hh k_hh, .int .i64 (greatestD a.hi b.hi).e]] (by kernel_rfl) fun w19 h19 => ?_
                  refine (withinI_any _ _ b ⟨(leastD a.lo b.lo), (greatestD a.hi b.hi)⟩ _ (mkI (h19.rdD r_bl) (h19.rdD r_bh)) (mkI (h19.rdD r_hhl) (h19.rdD r_hhh))).mono ?_
                  rintro e v19 ⟨rfl, hb19⟩
                  refine ⟨hb19, [.bool (withinI b ⟨(leastD a.lo b.lo), (greatestD a.hi b.hi)⟩)], _, rfl, by kernel_rfl, by kernel_rfl, fun g19 => ?_⟩
                  replace r_al := g19.rdD r_al; replace r_ah := g19.rdD r_ah; replace r_bl := g19.rdD r_bl; replace r_bh := g19.rdD r_bh; replace r_d := g19.rdD r_d; replace r_hhl := g19.rdD r_hhl; replace r_hhh := g19.rdD r_hhh; replace r_mml := g19.rdD r_mml; replace r_mmh := g19.rdD r_mmh
                  clear h19 hb19
                  refine sat_prim (v := .bool (!(withinI b ⟨(leastD a.lo b.lo), (greatestD a.hi b.hi)⟩))) (by kernel_rfl) ?_
                  refine sat_falseP (b := (!(withinI b ⟨(leastD a.lo b.lo), (greatestD a.hi b.hi)⟩))) (by kernel_rfl) (by rw [show (withinI b ⟨(leastD a.lo b.lo), (greatestD a.hi b.hi)⟩) = true from within_hull2 G]; rfl) ?_
                  refine sat_prim (v := .bool ((5 : Int) == 0)) (by kernel_rfl) ?_
                  refine sat_falseP (b := ((5 : Int) == 0)) (by kernel_rfl) (by decide) ?_
                  refine sat_prim (v := .bool (!(false == (hasI b d)))) (by kernel_rfl) ?_
                  refine sat_falseP (b := (!(false == (hasI b d)))) (by kernel_rfl) (by rw [show (false == (hasI b d)) = true from by rw [no_meet G hM hA]; rfl]; rfl) ?_
                  refine sat_prim (v := .bool ((5 : Int) != 0)) (by kernel_rfl) ?_
                  refine sat_trueP (b := ((5 : Int) != 0)) (by kernel_rfl) (by decide) ?_
                  refine sat_falseP (b := (hasI b d)) (by kernel_rfl) (no_meet G hM hA) ?_
                  refine sat_call #[.agg #[.bool a.lo.neg, .slice A_a n_a c_a, .int .i64 a.lo.e, .bool a.hi.neg, .slice B_a m_a k_a, .int .i64 a.hi.e], .agg #[.bool b.lo.neg, .slice A_b n_b c_b, .int .i64 b.lo.e, .bool b.hi.neg, .slice B_b m_b k_b, .int .i64 b.hi.e]] (by kernel_rfl) fun w20 h20 => ?_
                  refine (insideI_any _ _ a b _ (mkI (h20.rdD r_al) (h20.rdD r_ah)) (mkI (h20.rdD r_bl) (h20.rdD r_bh))).mono ?_
                  rintro e v20 ⟨rfl, hb20⟩
                  refine ⟨hb20, [.bool (insideI a b)], _, rfl, by kernel_rfl, by kernel_rfl, fun g20 => ?_⟩
                  replace r_al := g20.rdD r_al; replace r_ah := g20.rdD r_ah; replace r_bl := g20.rdD r_bl; replace r_bh := g20.rdD r_bh; replace r_d := g20.rdD r_d; replace r_hhl := g20.rdD r_hhl; replace r_hhh := g20.rdD r_hhh; replace r_mml := g20.rdD r_mml; replace r_mmh := g20.rdD r_mmh
                  clear h20 hb20
                  refine sat_falseP (b := (insideI a b)) (by kernel_rfl) (no_inside G hM) ?_
                  refine sat_call #[] (by kernel_rfl) fun w21 h21 => ?_
                  refine (told5_any _ (h21.tab hT)).mono ?_
                  rintro e v21 ⟨rfl, hb21⟩
                  refine ⟨hb21, [.bool true], _, rfl, by kernel_rfl, by kernel_rfl, fun g21 => ?_⟩
                  replace r_al := g21.rdD r_al; replace r_ah := g21.rdD r_ah; replace r_bl := g21.rdD r_bl; replace r_bh := g21.rdD r_bh; replace r_d := g21.rdD r_d; replace r_hhl := g21.rdD r_hhl; replace r_hhh := g21.rdD r_hhh; replace r_mml := g21.rdD r_mml; replace r_mmh := g21.rdD r_mmh
                  clear h21 hb21
                  refine sat_true (by kernel_rfl) ?_
                  refine sat_call #[.agg #[.bool a.lo.neg, .slice A_a n_a c_a, .int .i64 a.lo.e, .bool a.hi.neg, .slice B_a m_a k_a, .int .i64 a.hi.e], .agg #[.bool a.lo.neg, .slice A_a n_a c_a, .int .i64 a.lo.e, .bool a.hi.neg, .slice B_a m_a k_a, .int .i64 a.hi.e]] (by kernel_rfl) fun w22 h22 => ?_
                  refine (withinI_any _ _ a a _ (mkI (h22.rdD r_al) (h22.rdD r_ah)) (mkI (h22.rdD r_al) (h22.rdD r_ah))).mono ?_
                  rintro e v22 ⟨rfl, hb22⟩
                  refine ⟨hb22, [.bool (withinI a a)], _, rfl, by kernel_rfl, by kernel_rfl, fun g22 => ?_⟩
                  replace r_al := g22.rdD r_al; replace r_ah := g22.rdD r_ah; replace r_bl := g22.rdD r_bl; replace r_bh := g22.rdD r_bh; replace r_d := g22.rdD r_d; replace r_hhl := g22.rdD r_hhl; replace r_hhh := g22.rdD r_hhh; replace r_mml := g22.rdD r_mml; replace r_mmh := g22.rdD r_mmh
                  clear h22 hb22
                  refine sat_trueP (b := (withinI a a)) (by kernel_rfl) (within_self G) ?_
                  refine sat_call #[.agg #[.bool a.lo.neg, .slice A_a n_a c_a, .int .i64 a.lo.e, .bool a.hi.neg, .slice B_a m_a k_a, .int .i64 a.hi.e], .agg #[.bool a.lo.neg, .slice A_a n_a c_a, .int .i64 a.lo.e, .bool a.hi.neg, .slice B_a m_a k_a, .int .i64 a.hi.e]] (by kernel_rfl) fun w23 h23 => ?_
                  refine (insideI_any _ _ a a _ (mkI (h23.rdD r_al) (h23.rdD r_ah)) (mkI (h23.rdD r_al) (h23.rdD r_ah))).mono ?_
                  rintro e v23 ⟨rfl, hb23⟩
                  refine ⟨hb23, [.bool (insideI a a)], _, rfl, by kernel_rfl, by kernel_rfl, fun g23 => ?_⟩
                  replace r_al := g23.rdD r_al; replace r_ah := g23.rdD r_ah; replace r_bl := g23.rdD r_bl; replace r_bh := g23.rdD r_bh; replace r_d := g23.rdD r_d; replace r_hhl := g23.rdD r_hhl; replace r_hhh := g23.rdD r_hhh; replace r_mml := g23.rdD r_mml; replace r_mmh := g23.rdD r_mmh
                  clear h23 hb23
                  refine sat_prim (v := .bool (!(insideI a a))) (by kernel_rfl) ?_
                  refine sat_trueP (b := (!(insideI a a))) (by kernel_rfl) (by rw [show (insideI a a) = false from inside_self G]; rfl) ?_
                  refine sat_call #[.agg #[.bool a.lo.neg, .slice A_a n_a c_a, .int .i64 a.lo.e, .bool a.hi.neg, .slice B_a m_a k_a, .int .i64 a.hi.e], .agg #[.bool b.lo.neg, .slice A_b n_b c_b, .int .i64 b.lo.e, .bool b.hi.neg, .slice B_b m_b k_b, .int .i64 b.hi.e]] (by kernel_rfl) fun w24 h24 => ?_
                  refine (withinI_any _ _ a b _ (mkI (h24.rdD r_al) (h24.rdD r_ah)) (mkI (h24.rdD r_bl) (h24.rdD r_bh))).mono ?_
                  rintro e v24 ⟨rfl, hb24⟩
                  refine ⟨hb24, [.bool (withinI a b)], _, rfl, by kernel_rfl, by kernel_rfl, fun g24 => ?_⟩
                  replace r_al := g24.rdD r_al; replace r_ah := g24.rdD r_ah; replace r_bl := g24.rdD r_bl; replace r_bh := g24.rdD r_bh; replace r_d := g24.rdD r_d; replace r_hhl := g24.rdD r_hhl; replace r_hhh := g24.rdD r_hhh; replace r_mml := g24.rdD r_mml; replace r_mmh := g24.rdD r_mmh
                  clear h24 hb24
                  refine sat_prim (v := .bool (!(withinI a b))) (by kernel_rfl) ?_
                  refine sat_trueP (b := (!(withinI a b))) (by kernel_rfl) (by rw [show (withinI a b) = false from no_within G hM]; rfl) ?_
                  refine sat_prim (v := .bool ((5 : Int) == 0)) (by kernel_rfl) ?_
                  refine sat_falseP (b := ((5 : Int) == 0)) (by kernel_rfl) (by decide) ?_
                  refine sat_prim (v := .bool ((5 : Int) == 5)) (by kernel_rfl) ?_
                  exact sat_ret (.bool ((5 : Int) == 5)) (by kernel_rfl) fun w9 h9 => rfl
              · refine sat_call #[.agg #[.bool a.lo.neg, .slice A_a n_a c_a, .int .i64 a.lo.e, .bool a.hi.neg, .slice B_a m_a k_a, .int .i64 a.hi.e], .agg #[.bool b.lo.neg, .slice A_b n_b c_b, .int .i64 b.lo.e, .bool b.hi.neg, .slice B_b m_b k_b, .int .i64 b.hi.e]] (by kernel_rfl) fun w14 h14 => ?_
                refine (meetI_any _ _ a b _ (mkI (h14.rdD r_al) (h14.rdD r_ah)) (mkI (h14.rdD r_bl) (h14.rdD r_bh))).mono ?_
                rintro e v14 ⟨⟨l_mm, g_mm, x_mm, A_mm, n_mm, c_mm, B_mm, m_mm, k_mm, h_mm, rfl, r_mml, r_mmh⟩, hb14⟩
                obtain ⟨rfl, rfl, rfl⟩ := iv3 h_mm (meet_yes G hM)
                refine ⟨hb14, [.bool (greatestD a.lo b.lo).neg, .slice A_mm n_mm c_mm, .int .i64 (greatestD a.lo b.lo).e, .bool (leastD a.hi b.hi).neg, .slice B_mm m_mm k_mm, .int .i64 (leastD a.hi b.hi).e, .int .i64 0], _, rfl, by kernel_rfl, by kernel_rfl, fun g14 => ?_⟩
                replace r_al := g14.rdD r_al; replace r_ah := g14.rdD r_ah; replace r_bl := g14.rdD r_bl; replace r_bh := g14.rdD r_bh; replace r_d := g14.rdD r_d; replace r_hhl := g14.rdD r_hhl; replace r_hhh := g14.rdD r_hhh
                clear h14 hb14
                refine sat_chkB (by kernel_rfl) ?_
                refine sat_call #[.agg #[.bool a.lo.neg, .slice A_a n_a c_a, .int .i64 a.lo.e, .bool a.hi.neg, .slice B_a m_a k_a, .int .i64 a.hi.e], .agg #[.bool d.neg, .slice A_d n_d c_d, .int .i64 d.e]] (by kernel_rfl) fun w15 h15 => ?_
                refine (hasI_any _ _ a (d) _ (mkI (h15.rdD r_al) (h15.rdD r_ah)) (h15.rdD r_d)).mono ?_
                rintro e v15 ⟨rfl, hb15⟩
                refine ⟨hb15, [.bool (hasI a d)], _, rfl, by kernel_rfl, by kernel_rfl, fun g15 => ?_⟩
                replace r_al := g15.rdD r_al; replace r_ah := g15.rdD r_ah; replace r_bl := g15.rdD r_bl; replace r_bh := g15.rdD r_bh; replace r_d := g15.rdD r_d; replace r_hhl := g15.rdD r_hhl; replace r_hhh := g15.rdD r_hhh; replace r_mml := g15.rdD r_mml; replace r_mmh := g15.rdD r_mmh
                clear h15 hb15
                cases hA : (hasI a d)
                · refine sat_false (by kernel_rfl) ?_
                  refine sat_prim (v := .bool ((0 : Int) != 0)) (by kernel_rfl) ?_
                  refine sat_falseP (b := ((0 : Int) != 0)) (by kernel_rfl) (by decide) ?_
                  refine sat_call #[.agg #[.bool a.lo.neg, .slice A_a n_a c_a, .int .i64 a.lo.e, .bool a.hi.neg, .slice B_a m_a k_a, .int .i64 a.hi.e], .agg #[.bool (leastD a.lo b.lo).neg, .slice A_hh n_hh c_hh, .int .i64 (leastD a.lo b.lo).e, .bool (greatestD a.hi b.hi).neg, .slice B_hh m_hh k_hh, .int .i64 (greatestD a.hi b.hi).e]] (by kernel_rfl) fun w17 h17 => ?_
                  refine (withinI_any _ _ a ⟨(leastD a.lo b.lo), (greatestD a.hi b.hi)⟩ _ (mkI (h17.rdD r_al) (h17.rdD r_ah)) (mkI (h17.rdD r_hhl) (h17.rdD r_hhh))).mono ?_
                  rintro e v17 ⟨rfl, hb17⟩
                  refine ⟨hb17, [.bool (withinI a ⟨(leastD a.lo b.lo), (greatestD a.hi b.hi)⟩)], _, rfl, by kernel_rfl, by kernel_rfl, fun g17 => ?_⟩
                  replace r_al := g17.rdD r_al; replace r_ah := g17.rdD r_ah; replace r_bl := g17.rdD r_bl; replace r_bh := g17.rdD r_bh; replace r_d := g17.rdD r_d; replace r_hhl := g17.rdD r_hhl; replace r_hhh := g17.rdD r_hhh; replace r_mml := g17.rdD r_mml; replace r_mmh := g17.rdD r_mmh
                  clear h17 hb17
                  refine sat_prim (v := .bool (!(withinI a ⟨(leastD a.lo b.lo), (greatestD a.hi b.hi)⟩))) (by kernel_rfl) ?_
                  refine sat_falseP (b := (!(withinI a ⟨(leastD a.lo b.lo), (greatestD a.hi b.hi)⟩))) (by kernel_rfl) (by rw [show (withinI a ⟨(leastD a.lo b.lo), (greatestD a.hi b.hi)⟩) = true from within_hull1 G]; rfl) ?_
                  refine sat_call #[.agg #[.bool b.lo.neg, .slice A_b n_b c_b, .int .i64 b.lo.e, .bool b.hi.neg, .slice B_b m_b k_b, .int .i64 b.hi.e], .agg #[.bool (leastD a.lo b.lo).neg, .slice A_hh n_hh c_hh, .int .i64 (leastD a.lo b.lo).e, .bool (greatestD a.hi b.hi).neg, .slice B_hh m_hh k_hh, .int .i64 (greatestD a.hi b.hi).e]] (by kernel_rfl) fun w18 h18 => ?_
                  refine (withinI_any _ _ b ⟨(leastD a.lo b.lo), (greatestD a.hi b.hi)⟩ _ (mkI (h18.rdD r_bl) (h18.rdD r_bh)) (mkI (h18.rdD r_hhl) (h18.rdD r_hhh))).mono ?_
                  rintro e v18 ⟨rfl, hb18⟩
                  refine ⟨hb18, [.bool (withinI b ⟨(leastD a.lo b.lo), (greatestD a.hi b.hi)⟩)], _, rfl, by kernel_rfl, by kernel_rfl, fun g18 => ?_⟩
                  replace r_al := g18.rdD r_al; replace r_ah := g18.rdD r_ah; replace r_bl := g18.rdD r_bl; replace r_bh := g18.rdD r_bh; replace r_d := g18.rdD r_d; replace r_hhl := g18.rdD r_hhl; replace r_hhh := g18.rdD r_hhh; replace r_mml := g18.rdD r_mml; replace r_mmh := g18.rdD r_mmh
                  clear h18 hb18
                  refine sat_prim (v := .bool (!(withinI b ⟨(leastD a.lo b.lo), (greatestD a.hi b.hi)⟩))) (by kernel_rfl) ?_
                  refine sat_falseP (b := (!(withinI b ⟨(leastD a.lo b.lo), (greatestD a.hi b.hi)⟩))) (by kernel_rfl) (by rw [show (withinI b ⟨(leastD a.lo b.lo), (greatestD a.hi b.hi)⟩) = true from within_hull2 G]; rfl) ?_
                  refine sat_prim (v := .bool ((0 : Int) == 0)) (by kernel_rfl) ?_
                  refine sat_trueP (b := ((0 : Int) == 0)) (by kernel_rfl) (by simp) ?_
                  refine sat_call #[.agg #[.bool (greatestD a.lo b.lo).neg, .slice A_mm n_mm c_mm, .int .i64 (greatestD a.lo b.lo).e, .bool (leastD a.hi b.hi).neg, .slice B_mm m_mm k_mm, .int .i64 (leastD a.hi b.hi).e], .agg #[.bool d.neg, .slice A_d n_d c_d, .int .i64 d.e]] (by kernel_rfl) fun w19 h19 => ?_
                  refine (hasI_any _ _ ⟨(greatestD a.lo b.lo), (leastD a.hi b.hi)⟩ (d) _ (mkI (h19.rdD r_mml) (h19.rdD r_mmh)) (h19.rdD r_d)).mono ?_
                  rintro e v19 ⟨rfl, hb19⟩
                  refine ⟨hb19, [.bool (hasI ⟨(greatestD a.lo b.lo), (leastD a.hi b.hi)⟩ d)], _, rfl, by kernel_rfl, by kernel_rfl, fun g19 => ?_⟩
                  replace r_al := g19.rdD r_al; replace r_ah := g19.rdD r_ah; replace r_bl := g19.rdD r_bl; replace r_bh := g19.rdD r_bh; replace r_d := g19.rdD r_d; replace r_hhl := g19.rdD r_hhl; replace r_hhh := g19.rdD r_hhh; replace r_mml := g19.rdD r_mml; replace r_mmh := g19.rdD r_mmh
                  clear h19 hb19
                  refine sat_prim (v := .bool (!((hasI ⟨(greatestD a.lo b.lo), (leastD a.hi b.hi)⟩ d) == false))) (by kernel_rfl) ?_
                  refine sat_falseP (b := (!((hasI ⟨(greatestD a.lo b.lo), (leastD a.hi b.hi)⟩ d) == false))) (by kernel_rfl) (by rw [show ((hasI ⟨(greatestD a.lo b.lo), (leastD a.hi b.hi)⟩ d) == false) = true from by rw [show hasI ⟨(greatestD a.lo b.lo), (leastD a.hi b.hi)⟩ d = _ from has_meet G hM, hA]; simp]; rfl) ?_
                  refine sat_prim (v := .bool ((0 : Int) != 0)) (by kernel_rfl) ?_
                  refine sat_falseP (b := ((0 : Int) != 0)) (by kernel_rfl) (by decide) ?_
                  refine sat_call #[.agg #[.bool a.lo.neg, .slice A_a n_a c_a, .int .i64 a.lo.e, .bool a.hi.neg, .slice B_a m_a k_a, .int .i64 a.hi.e], .agg #[.bool b.lo.neg, .slice A_b n_b c_b, .int .i64 b.lo.e, .bool b.hi.neg, .slice B_b m_b k_b, .int .i64 b.hi.e]] (by kernel_rfl) fun w20 h20 => ?_
                  refine (insideI_any _ _ a b _ (mkI (h20.rdD r_al) (h20.rdD r_ah)) (mkI (h20.rdD r_bl) (h20.rdD r_bh))).mono ?_
                  rintro e v20 ⟨rfl, hb20⟩
                  refine ⟨hb20, [.bool (insideI a b)], _, rfl, by kernel_rfl, by kernel_rfl, fun g20 => ?_⟩
                  replace r_al := g20.rdD r_al; replace r_ah := g20.rdD r_ah; replace r_bl := g20.rdD r_bl; replace r_bh := g20.rdD r_bh; replace r_d := g20.rdD r_d; replace r_hhl := g20.rdD r_hhl; replace r_hhh := g20.rdD r_hhh; replace r_mml := g20.rdD r_mml; replace r_mmh := g20.rdD r_mmh
                  clear h20 hb20
                  cases hI : (insideI a b)
                  · refine sat_false (by kernel_rfl) ?_
                    refine sat_call #[] (by kernel_rfl) fun w22 h22 => ?_
                    refine (told5_any _ (h22.tab hT)).mono ?_
                    rintro e v22 ⟨rfl, hb22⟩
                    refine ⟨hb22, [.bool true], _, rfl, by kernel_rfl, by kernel_rfl, fun g22 => ?_⟩
                    replace r_al := g22.rdD r_al; replace r_ah := g22.rdD r_ah; replace r_bl := g22.rdD r_bl; replace r_bh := g22.rdD r_bh; replace r_d := g22.rdD r_d; replace r_hhl := g22.rdD r_hhl; replace r_hhh := g22.rdD r_hhh; replace r_mml := g22.rdD r_mml; replace r_mmh := g22.rdD r_mmh
                    clear h22 hb22
                    refine sat_true (by kernel_rfl) ?_
                    refine sat_call #[.agg #[.bool a.lo.neg, .slice A_a n_a c_a, .int .i64 a.lo.e, .bool a.hi.neg, .slice B_a m_a k_a, .int .i64 a.hi.e], .agg #[.bool a.lo.neg, .slice A_a n_a c_a, .int .i64 a.lo.e, .bool a.hi.neg, .slice B_a m_a k_a, .int .i64 a.hi.e]] (by kernel_rfl) fun w23 h23 => ?_
                    refine (withinI_any _ _ a a _ (mkI (h23.rdD r_al) (h23.rdD r_ah)) (mkI (h23.rdD r_al) (h23.rdD r_ah))).mono ?_
                    rintro e v23 ⟨rfl, hb23⟩
                    refine ⟨hb23, [.bool (withinI a a)], _, rfl, by kernel_rfl, by kernel_rfl, fun g23 => ?_⟩
                    replace r_al := g23.rdD r_al; replace r_ah := g23.rdD r_ah; replace r_bl := g23.rdD r_bl; replace r_bh := g23.rdD r_bh; replace r_d := g23.rdD r_d; replace r_hhl := g23.rdD r_hhl; replace r_hhh := g23.rdD r_hhh; replace r_mml := g23.rdD r_mml; replace r_mmh := g23.rdD r_mmh
                    clear h23 hb23
                    refine sat_trueP (b := (withinI a a)) (by kernel_rfl) (within_self G) ?_
                    refine sat_call #[.agg #[.bool a.lo.neg, .slice A_a n_a c_a, .int .i64 a.lo.e, .bool a.hi.neg, .slice B_a m_a k_a, .int .i64 a.hi.e], .agg #[.bool a.lo.neg, .slice A_a n_a c_a, .int .i64 a.lo.e, .bool a.hi.neg, .slice B_a m_a k_a, .int .i64 a.hi.e]] (by kernel_rfl) fun w24 h24 => ?_
                    refine (insideI_any _ _ a a _ (mkI (h24.rdD r_al) (h24.rdD r_ah)) (mkI (h24.rdD r_al) (h24.rdD r_ah))).mono ?_
                    rintro e v24 ⟨rfl, hb24⟩
                    refine ⟨hb24, [.bool (insideI a a)], _, rfl, by kernel_rfl, by kernel_rfl, fun g24 => ?_⟩
                    replace r_al := g24.rdD r_al; replace r_ah := g24.rdD r_ah; replace r_bl := g24.rdD r_bl; replace r_bh := g24.rdD r_bh; replace r_d := g24.rdD r_d; replace r_hhl := g24.rdD r_hhl; replace r_hhh := g24.rdD r_hhh; replace r_mml := g24.rdD r_mml; replace r_mmh := g24.rdD r_mmh
                    clear h24 hb24
                    refine sat_prim (v := .bool (!(insideI a a))) (by kernel_rfl) ?_
                    refine sat_trueP (b := (!(insideI a a))) (by kernel_rfl) (by rw [show (insideI a a) = false from inside_self G]; rfl) ?_
                    refine sat_call #[.agg #[.bool a.lo.neg, .slice A_a n_a c_a, .int .i64 a.lo.e, .bool a.hi.neg, .slice B_a m_a k_a, .int .i64 a.hi.e], .agg #[.bool b.lo.neg, .slice A_b n_b c_b, .int .i64 b.lo.e, .bool b.hi.neg, .slice B_b m_b k_b, .int .i64 b.hi.e]] (by kernel_rfl) fun w25 h25 => ?_
                    refine (withinI_any _ _ a b _ (mkI (h25.rdD r_al) (h25.rdD r_ah)) (mkI (h25.rdD r_bl) (h25.rdD r_bh))).mono ?_
                    rintro e v25 ⟨rfl, hb25⟩
                    refine ⟨hb25, [.bool (withinI a b)], _, rfl, by kernel_rfl, by kernel_rfl, fun g25 => ?_⟩
                    replace r_al := g25.rdD r_al; replace r_ah := g25.rdD r_ah; replace r_bl := g25.rdD r_bl; replace r_bh := g25.rdD r_bh; replace r_d := g25.rdD r_d; replace r_hhl := g25.rdD r_hhl; replace r_hhh := g25.rdD r_hhh; replace r_mml := g25.rdD r_mml; replace r_mmh := g25.rdD r_mmh
                    clear h25 hb25
                    refine sat_prim (v := .bool (!(withinI a b))) (by kernel_rfl) ?_
                    cases hW : (withinI a b)
                    · refine sat_true (by kernel_rfl) ?_
                      refine sat_prim (v := .bool ((0 : Int) == 0)) (by kernel_rfl) ?_
                      refine sat_trueP (b := ((0 : Int) == 0)) (by kernel_rfl) (by simp) ?_
                      exact sat_ret (.bool true) (by kernel_rfl) fun w9 h9 => rfl
                    · refine sat_false (by kernel_rfl) ?_
                      refine sat_call #[.agg #[.bool (leastD a.lo b.lo).neg, .slice A_hh n_hh c_hh, .int .i64 (leastD a.lo b.lo).e, .bool (greatestD a.hi b.hi).neg, .slice B_hh m_hh k_hh, .int .i64 (greatestD a.hi b.hi).e], .agg #[.bool b.lo.neg, .slice A_b n_b c_b, .int .i64 b.lo.e, .bool b.hi.neg, .slice B_b m_b k_b, .int .i64 b.hi.e]] (by kernel_rfl) fun w27 h27 => ?_
                      refine (sameI_any _ _ ⟨(leastD a.lo b.lo), (greatestD a.hi b.hi)⟩ b _ (mkI (h27.rdD r_hhl) (h27.rdD r_hhh)) (mkI (h27.rdD r_bl) (h27.rdD r_bh))).mono ?_
                      rintro e v27 ⟨rfl, hb27⟩
                      refine ⟨hb27, [.bool (sameI ⟨(leastD a.lo b.lo), (greatestD a.hi b.hi)⟩ b)], _, rfl, by kernel_rfl, by kernel_rfl, fun g27 => ?_⟩
                      replace r_al := g27.rdD r_al; replace r_ah := g27.rdD r_ah; replace r_bl := g27.rdD r_bl; replace r_bh := g27.rdD r_bh; replace r_d := g27.rdD r_d; replace r_hhl := g27.rdD r_hhl; replace r_hhh := g27.rdD r_hhh; replace r_mml := g27.rdD r_mml; replace r_mmh := g27.rdD r_mmh
                      clear h27 hb27
                      refine sat_trueP (b := (sameI ⟨(leastD a.lo b.lo), (greatestD a.hi b.hi)⟩ b)) (by kernel_rfl) (same_hull G hW) ?_
                      refine sat_prim (v := .bool ((0 : Int) == 0)) (by kernel_rfl) ?_
                      refine sat_trueP (b := ((0 : Int) == 0)) (by kernel_rfl) (by simp) ?_
                      refine sat_call #[.agg #[.bool (greatestD a.lo b.lo).neg, .slice A_mm n_mm c_mm, .int .i64 (greatestD a.lo b.lo).e, .bool (leastD a.hi b.hi).neg, .slice B_mm m_mm k_mm, .int .i64 (leastD a.hi b.hi).e], .agg #[.bool a.lo.neg, .slice A_a n_a c_a, .int .i64 a.lo.e, .bool a.hi.neg, .slice B_a m_a k_a, .int .i64 a.hi.e]] (by kernel_rfl) fun w28 h28 => ?_
                      refine (sameI_any _ _ ⟨(greatestD a.lo b.lo), (leastD a.hi b.hi)⟩ a _ (mkI (h28.rdD r_mml) (h28.rdD r_mmh)) (mkI (h28.rdD r_al) (h28.rdD r_ah))).mono ?_
                      rintro e v28 ⟨rfl, hb28⟩
                      refine ⟨hb28, [.bool (sameI ⟨(greatestD a.lo b.lo), (leastD a.hi b.hi)⟩ a)], _, rfl, by kernel_rfl, by kernel_rfl, fun g28 => ?_⟩
                      replace r_al := g28.rdD r_al; replace r_ah := g28.rdD r_ah; replace r_bl := g28.rdD r_bl; replace r_bh := g28.rdD r_bh; replace r_d := g28.rdD r_d; replace r_hhl := g28.rdD r_hhl; replace r_hhh := g28.rdD r_hhh; replace r_mml := g28.rdD r_mml; replace r_mmh := g28.rdD r_mmh
                      clear h28 hb28
                      refine sat_trueP (b := (sameI ⟨(greatestD a.lo b.lo), (leastD a.hi b.hi)⟩ a)) (by kernel_rfl) (same_meet G hW) ?_
                      refine sat_prim (v := .bool ((0 : Int) == 0)) (by kernel_rfl) ?_
                      refine sat_trueP (b := ((0 : Int) == 0)) (by kernel_rfl) (by simp) ?_
                      exact sat_ret (.bool true) (by kernel_rfl) fun w9 h9 => rfl
                  · refine sat_true (by kernel_rfl) ?_
                    refine sat_call #[.agg #[.bool a.lo.neg, .slice A_a n_a c_a, .int .i64 a.lo.e, .bool a.hi.neg, .slice B_a m_a k_a, .int .i64 a.hi.e], .agg #[.bool b.lo.neg, .slice A_b n_b c_b, .int .i64 b.lo.e, .bool b.hi.neg, .slice B_b m_b k_b, .int .i64 b.hi.e]] (by kernel_rfl) fun w22 h22 => ?_
                    refine (withinI_any _ _ a b _ (mkI (h22.rdD r_al) (h22.rdD r_ah)) (mkI (h22.rdD r_bl) (h22.rdD r_bh))).mono ?_
                    rintro e v22 ⟨rfl, hb22⟩
                    refine ⟨hb22, [.bool (withinI a b)], _, rfl, by kernel_rfl, by kernel_rfl, fun g22 => ?_⟩
                    replace r_al := g22.rdD r_al; replace r_ah := g22.rdD r_ah; replace r_bl := g22.rdD r_bl; replace r_bh := g22.rdD r_bh; replace r_d := g22.rdD r_d; replace r_hhl := g22.rdD r_hhl; replace r_hhh := g22.rdD r_hhh; replace r_mml := g22.rdD r_mml; replace r_mmh := g22.rdD r_mmh
                    clear h22 hb22
                    refine sat_prim (v := .bool (!(withinI a b))) (by kernel_rfl) ?_
                    refine sat_falseP (b := (!(withinI a b))) (by kernel_rfl) (by rw [show (withinI a b) = true from in_within G hI]; rfl) ?_
                    refine sat_call #[.agg #[.bool b.lo.neg, .slice A_b n_b c_b, .int .i64 b.lo.e, .bool b.hi.neg, .slice B_b m_b k_b, .int .i64 b.hi.e], .agg #[.bool a.lo.neg, .slice A_a n_a c_a, .int .i64 a.lo.e, .bool a.hi.neg, .slice B_a m_a k_a, .int .i64 a.hi.e]] (by kernel_rfl) fun w23 h23 => ?_
                    refine (withinI_any _ _ b a _ (mkI (h23.rdD r_bl) (h23.rdD r_bh)) (mkI (h23.rdD r_al) (h23.rdD r_ah))).mono ?_
                    rintro e v23 ⟨rfl, hb23⟩
                    refine ⟨hb23, [.bool (withinI b a)], _, rfl, by kernel_rfl, by kernel_rfl, fun g23 => ?_⟩
                    replace r_al := g23.rdD r_al; replace r_ah := g23.rdD r_ah; replace r_bl := g23.rdD r_bl; replace r_bh := g23.rdD r_bh; replace r_d := g23.rdD r_d; replace r_hhl := g23.rdD r_hhl; replace r_hhh := g23.rdD r_hhh; replace r_mml := g23.rdD r_mml; replace r_mmh := g23.rdD r_mmh
                    clear h23 hb23
                    refine sat_falseP (b := (withinI b a)) (by kernel_rfl) (in_back G hI) ?_
                    refine sat_call #[.agg #[.bool a.lo.neg, .slice A_a n_a c_a, .int .i64 a.lo.e, .bool a.hi.neg, .slice B_a m_a k_a, .int .i64 a.hi.e], .agg #[.bool b.lo.neg, .slice A_b n_b c_b, .int .i64 b.lo.e, .bool b.hi.neg, .slice B_b m_b k_b, .int .i64 b.hi.e]] (by kernel_rfl) fun w24 h24 => ?_
                    refine (sameI_any _ _ a b _ (mkI (h24.rdD r_al) (h24.rdD r_ah)) (mkI (h24.rdD r_bl) (h24.rdD r_bh))).mono ?_
                    rintro e v24 ⟨rfl, hb24⟩
                    refine ⟨hb24, [.bool (sameI a b)], _, rfl, by kernel_rfl, by kernel_rfl, fun g24 => ?_⟩
                    replace r_al := g24.rdD r_al; replace r_ah := g24.rdD r_ah; replace r_bl := g24.rdD r_bl; replace r_bh := g24.rdD r_bh; replace r_d := g24.rdD r_d; replace r_hhl := g24.rdD r_hhl; replace r_hhh := g24.rdD r_hhh; replace r_mml := g24.rdD r_mml; replace r_mmh := g24.rdD r_mmh
                    clear h24 hb24
                    refine sat_falseP (b := (sameI a b)) (by kernel_rfl) (in_same G hI) ?_
                    refine sat_call #[] (by kernel_rfl) fun w25 h25 => ?_
                    refine (told5_any _ (h25.tab hT)).mono ?_
                    rintro e v25 ⟨rfl, hb25⟩
                    refine ⟨hb25, [.bool true], _, rfl, by kernel_rfl, by kernel_rfl, fun g25 => ?_⟩
                    replace r_al := g25.rdD r_al; replace r_ah := g25.rdD r_ah; replace r_bl := g25.rdD r_bl; replace r_bh := g25.rdD r_bh; replace r_d := g25.rdD r_d; replace r_hhl := g25.rdD r_hhl; replace r_hhh := g25.rdD r_hhh; replace r_mml := g25.rdD r_mml; replace r_mmh := g25.rdD r_mmh
                    clear h25 hb25
                    refine sat_true (by kernel_rfl) ?_
                    refine sat_call #[.agg #[.bool a.lo.neg, .slice A_a n_a c_a, .int .i64 a.lo.e, .bool a.hi.neg, .slice B_a m_a k_a, .int .i64 a.hi.e], .agg #[.bool a.lo.neg, .slice A_a n_a c_a, .int .i64 a.lo.e, .bool a.hi.neg, .slice B_a m_a k_a, .int .i64 a.hi.e]] (by kernel_rfl) fun w26 h26 => ?_
                    refine (withinI_any _ _ a a _ (mkI (h26.rdD r_al) (h26.rdD r_ah)) (mkI (h26.rdD r_al) (h26.rdD r_ah))).mono ?_
                    rintro e v26 ⟨rfl, hb26⟩
                    refine ⟨hb26, [.bool (withinI a a)], _, rfl, by kernel_rfl, by kernel_rfl, fun g26 => ?_⟩
                    replace r_al := g26.rdD r_al; replace r_ah := g26.rdD r_ah; replace r_bl := g26.rdD r_bl; replace r_bh := g26.rdD r_bh; replace r_d := g26.rdD r_d; replace r_hhl := g26.rdD r_hhl; replace r_hhh := g26.rdD r_hhh; replace r_mml := g26.rdD r_mml; replace r_mmh := g26.rdD r_mmh
                    clear h26 hb26
                    refine sat_trueP (b := (withinI a a)) (by kernel_rfl) (within_self G) ?_
                    refine sat_call #[.agg #[.bool a.lo.neg, .slice A_a n_a c_a, .int .i64 a.lo.e, .bool a.hi.neg, .slice B_a m_a k_a, .int .i64 a.hi.e], .agg #[.bool a.lo.neg, .slice A_a n_a c_a, .int .i64 a.lo.e, .bool a.hi.neg, .slice B_a m_a k_a, .int .i64 a.hi.e]] (by kernel_rfl) fun w27 h27 => ?_
                    refine (insideI_any _ _ a a _ (mkI (h27.rdD r_al) (h27.rdD r_ah)) (mkI (h27.rdD r_al) (h27.rdD r_ah))).mono ?_
                    rintro e v27 ⟨rfl, hb27⟩
                    refine ⟨hb27, [.bool (insideI a a)], _, rfl, by kernel_rfl, by kernel_rfl, fun g27 => ?_⟩
                    replace r_al := g27.rdD r_al; replace r_ah := g27.rdD r_ah; replace r_bl := g27.rdD r_bl; replace r_bh := g27.rdD r_bh; replace r_d := g27.rdD r_d; replace r_hhl := g27.rdD r_hhl; replace r_hhh := g27.rdD r_hhh; replace r_mml := g27.rdD r_mml; replace r_mmh := g27.rdD r_mmh
                    clear h27 hb27
                    refine sat_prim (v := .bool (!(insideI a a))) (by kernel_rfl) ?_
                    refine sat_trueP (b := (!(insideI a a))) (by kernel_rfl) (by rw [show (insideI a a) = false from inside_self G]; rfl) ?_
                    refine sat_call #[.agg #[.bool a.lo.neg, .slice A_a n_a c_a, .int .i64 a.lo.e, .bool a.hi.neg, .slice B_a m_a k_a, .int .i64 a.hi.e], .agg #[.bool b.lo.neg, .slice A_b n_b c_b, .int .i64 b.lo.e, .bool b.hi.neg, .slice B_b m_b k_b, .int .i64 b.hi.e]] (by kernel_rfl) fun w28 h28 => ?_
                    refine (withinI_any _ _ a b _ (mkI (h28.rdD r_al) (h28.rdD r_ah)) (mkI (h28.rdD r_bl) (h28.rdD r_bh))).mono ?_
                    rintro e v28 ⟨rfl, hb28⟩
                    refine ⟨hb28, [.bool (withinI a b)], _, rfl, by kernel_rfl, by kernel_rfl, fun g28 => ?_⟩
                    replace r_al := g28.rdD r_al; replace r_ah := g28.rdD r_ah; replace r_bl := g28.rdD r_bl; replace r_bh := g28.rdD r_bh; replace r_d := g28.rdD r_d; replace r_hhl := g28.rdD r_hhl; replace r_hhh := g28.rdD r_hhh; replace r_mml := g28.rdD r_mml; replace r_mmh := g28.rdD r_mmh
                    clear h28 hb28
                    refine sat_prim (v := .bool (!(withinI a b))) (by kernel_rfl) ?_
                    refine sat_falseP (b := (!(withinI a b))) (by kernel_rfl) (by rw [show (withinI a b) = true from in_within G hI]; rfl) ?_
                    refine sat_call #[.agg #[.bool (leastD a.lo b.lo).neg, .slice A_hh n_hh c_hh, .int .i64 (leastD a.lo b.lo).e, .bool (greatestD a.hi b.hi).neg, .slice B_hh m_hh k_hh, .int .i64 (greatestD a.hi b.hi).e], .agg #[.bool b.lo.neg, .slice A_b n_b c_b, .int .i64 b.lo.e, .bool b.hi.neg, .slice B_b m_b k_b, .int .i64 b.hi.e]] (by kernel_rfl) fun w29 h29 => ?_
                    refine (sameI_any _ _ ⟨(leastD a.lo b.lo), (greatestD a.hi b.hi)⟩ b _ (mkI (h29.rdD r_hhl) (h29.rdD r_hhh)) (mkI (h29.rdD r_bl) (h29.rdD r_bh))).mono ?_
                    rintro e v29 ⟨rfl, hb29⟩
                    refine ⟨hb29, [.bool (sameI ⟨(leastD a.lo b.lo), (greatestD a.hi b.hi)⟩ b)], _, rfl, by kernel_rfl, by kernel_rfl, fun g29 => ?_⟩
                    replace r_al := g29.rdD r_al; replace r_ah := g29.rdD r_ah; replace r_bl := g29.rdD r_bl; replace r_bh := g29.rdD r_bh; replace r_d := g29.rdD r_d; replace r_hhl := g29.rdD r_hhl; replace r_hhh := g29.rdD r_hhh; replace r_mml := g29.rdD r_mml; replace r_mmh := g29.rdD r_mmh
                    clear h29 hb29
                    refine sat_trueP (b := (sameI ⟨(leastD a.lo b.lo), (greatestD a.hi b.hi)⟩ b)) (by kernel_rfl) (same_hull G (in_within G hI)) ?_
                    refine sat_prim (v := .bool ((0 : Int) == 0)) (by kernel_rfl) ?_
                    refine sat_trueP (b := ((0 : Int) == 0)) (by kernel_rfl) (by simp) ?_
                    refine sat_call #[.agg #[.bool (greatestD a.lo b.lo).neg, .slice A_mm n_mm c_mm, .int .i64 (greatestD a.lo b.lo).e, .bool (leastD a.hi b.hi).neg, .slice B_mm m_mm k_mm, .int .i64 (leastD a.hi b.hi).e], .agg #[.bool a.lo.neg, .slice A_a n_a c_a, .int .i64 a.lo.e, .bool a.hi.neg, .slice B_a m_a k_a, .int .i64 a.hi.e]] (by kernel_rfl) fun w30 h30 => ?_
                    refine (sameI_any _ _ ⟨(greatestD a.lo b.lo), (leastD a.hi b.hi)⟩ a _ (mkI (h30.rdD r_mml) (h30.rdD r_mmh)) (mkI (h30.rdD r_al) (h30.rdD r_ah))).mono ?_
                    rintro e v30 ⟨rfl, hb30⟩
                    refine ⟨hb30, [.bool (sameI ⟨(greatestD a.lo b.lo), (leastD a.hi b.hi)⟩ a)], _, rfl, by kernel_rfl, by kernel_rfl, fun g30 => ?_⟩
                    replace r_al := g30.rdD r_al; replace r_ah := g30.rdD r_ah; replace r_bl := g30.rdD r_bl; replace r_bh := g30.rdD r_bh; replace r_d := g30.rdD r_d; replace r_hhl := g30.rdD r_hhl; replace r_hhh := g30.rdD r_hhh; replace r_mml := g30.rdD r_mml; replace r_mmh := g30.rdD r_mmh
                    clear h30 hb30
                    refine sat_trueP (b := (sameI ⟨(greatestD a.lo b.lo), (leastD a.hi b.hi)⟩ a)) (by kernel_rfl) (same_meet G (in_within G hI)) ?_
                    refine sat_prim (v := .bool ((0 : Int) == 0)) (by kernel_rfl) ?_
                    refine sat_trueP (b := ((0 : Int) == 0)) (by kernel_rfl) (by simp) ?_
                    exact sat_ret (.bool true) (by kernel_rfl) fun w9 h9 => rfl
                · refine sat_true (by kernel_rfl) ?_
                  refine sat_call #[.agg #[.bool b.lo.neg, .slice A_b n_b c_b, .int .i64 b.lo.e, .bool b.hi.neg, .slice B_b m_b k_b, .int .i64 b.hi.e], .agg #[.bool d.neg, .slice A_d n_d c_d, .int .i64 d.e]] (by kernel_rfl) fun w17 h17 => ?_
                  refine (hasI_any _ _ b (d) _ (mkI (h17.rdD r_bl) (h17.rdD r_bh)) (h17.rdD r_d)).mono ?_
                  rintro e v17 ⟨rfl, hb17⟩
                  refine ⟨hb17, [.bool (hasI b d)], _, rfl, by kernel_rfl, by kernel_rfl, fun g17 => ?_⟩
                  replace r_al := g17.rdD r_al; replace r_ah := g17.rdD r_ah; replace r_bl := g17.rdD r_bl; replace r_bh := g17.rdD r_bh; replace r_d := g17.rdD r_d; replace r_hhl := g17.rdD r_hhl; replace r_hhh := g17.rdD r_hhh; replace r_mml := g17.rdD r_mml; replace r_mmh := g17.rdD r_mmh
                  clear h17 hb17
                  refine sat_prim (v := .bool ((0 : Int) != 0)) (by kernel_rfl) ?_
                  refine sat_falseP (b := ((0 : Int) != 0)) (by kernel_rfl) (by decide) ?_
                  refine sat_call #[.agg #[.bool a.lo.neg, .slice A_a n_a c_a, .int .i64 a.lo.e, .bool a.hi.neg, .slice B_a m_a k_a, .int .i64 a.hi.e], .agg #[.bool (leastD a.lo b.lo).neg, .slice A_hh n_hh c_hh, .int .i64 (leastD a.lo b.lo).e, .bool (greatestD a.hi b.hi).neg, .slice B_hh m_hh k_hh, .int .i64 (greatestD a.hi b.hi).e]] (by kernel_rfl) fun w18 h18 => ?_
                  refine (withinI_any _ _ a ⟨(leastD a.lo b.lo), (greatestD a.hi b.hi)⟩ _ (mkI (h18.rdD r_al) (h18.rdD r_ah)) (mkI (h18.rdD r_hhl) (h18.rdD r_hhh))).mono ?_
                  rintro e v18 ⟨rfl, hb18⟩
                  refine ⟨hb18, [.bool (withinI a ⟨(leastD a.lo b.lo), (greatestD a.hi b.hi)⟩)], _, rfl, by kernel_rfl, by kernel_rfl, fun g18 => ?_⟩
                  replace r_al := g18.rdD r_al; replace r_ah := g18.rdD r_ah; replace r_bl := g18.rdD r_bl; replace r_bh := g18.rdD r_bh; replace r_d := g18.rdD r_d; replace r_hhl := g18.rdD r_hhl; replace r_hhh := g18.rdD r_hhh; replace r_mml := g18.rdD r_mml; replace r_mmh := g18.rdD r_mmh
                  clear h18 hb18
                  refine sat_prim (v := .bool (!(withinI a ⟨(leastD a.lo b.lo), (greatestD a.hi b.hi)⟩))) (by kernel_rfl) ?_
                  refine sat_falseP (b := (!(withinI a ⟨(leastD a.lo b.lo), (greatestD a.hi b.hi)⟩))) (by kernel_rfl) (by rw [show (withinI a ⟨(leastD a.lo b.lo), (greatestD a.hi b.hi)⟩) = true from within_hull1 G]; rfl) ?_
                  refine sat_call #[.agg #[.bool b.lo.neg, .slice A_b n_b c_b, .int .i64 b.lo.e, .bool b.hi.neg, .slice B_b m_b k_b, .int .i64 b.hi.e], .agg #[.bool (leastD a.lo b.lo).neg, .slice A_hh n_hh c_hh, .int .i64 (leastD a.lo b.lo).e, .bool (greatestD a.hi b.hi).neg, .slice B_hh m_hh k_hh, .int .i64 (greatestD a.hi b.hi).e]] (by kernel_rfl) fun w19 h19 => ?_
                  refine (withinI_any _ _ b ⟨(leastD a.lo b.lo), (greatestD a.hi b.hi)⟩ _ (mkI (h19.rdD r_bl) (h19.rdD r_bh)) (mkI (h19.rdD r_hhl) (h19.rdD r_hhh))).mono ?_
                  rintro e v19 ⟨rfl, hb19⟩
                  refine ⟨hb19, [.bool (withinI b ⟨(leastD a.lo b.lo), (greatestD a.hi b.hi)⟩)], _, rfl, by kernel_rfl, by kernel_rfl, fun g19 => ?_⟩
                  replace r_al := g19.rdD r_al; replace r_ah := g19.rdD r_ah; replace r_bl := g19.rdD r_bl; replace r_bh := g19.rdD r_bh; replace r_d := g19.rdD r_d; replace r_hhl := g19.rdD r_hhl; replace r_hhh := g19.rdD r_hhh; replace r_mml := g19.rdD r_mml; replace r_mmh := g19.rdD r_mmh
                  clear h19 hb19
                  refine sat_prim (v := .bool (!(withinI b ⟨(leastD a.lo b.lo), (greatestD a.hi b.hi)⟩))) (by kernel_rfl) ?_
                  refine sat_falseP (b := (!(withinI b ⟨(leastD a.lo b.lo), (greatestD a.hi b.hi)⟩))) (by kernel_rfl) (by rw [show (withinI b ⟨(leastD a.lo b.lo), (greatestD a.hi b.hi)⟩) = true from within_hull2 G]; rfl) ?_
                  refine sat_prim (v := .bool ((0 : Int) == 0)) (by kernel_rfl) ?_
                  refine sat_trueP (b := ((0 : Int) == 0)) (by kernel_rfl) (by simp) ?_
                  refine sat_call #[.agg #[.bool (greatestD a.lo b.lo).neg, .slice A_mm n_mm c_mm, .int .i64 (greatestD a.lo b.lo).e, .bool (leastD a.hi b.hi).neg, .slice B_mm m_mm k_mm, .int .i64 (leastD a.hi b.hi).e], .agg #[.bool d.neg, .slice A_d n_d c_d, .int .i64 d.e]] (by kernel_rfl) fun w20 h20 => ?_
                  refine (hasI_any _ _ ⟨(greatestD a.lo b.lo), (leastD a.hi b.hi)⟩ (d) _ (mkI (h20.rdD r_mml) (h20.rdD r_mmh)) (h20.rdD r_d)).mono ?_
                  rintro e v20 ⟨rfl, hb20⟩
                  refine ⟨hb20, [.bool (hasI ⟨(greatestD a.lo b.lo), (leastD a.hi b.hi)⟩ d)], _, rfl, by kernel_rfl, by kernel_rfl, fun g20 => ?_⟩
                  replace r_al := g20.rdD r_al; replace r_ah := g20.rdD r_ah; replace r_bl := g20.rdD r_bl; replace r_bh := g20.rdD r_bh; replace r_d := g20.rdD r_d; replace r_hhl := g20.rdD r_hhl; replace r_hhh := g20.rdD r_hhh; replace r_mml := g20.rdD r_mml; replace r_mmh := g20.rdD r_mmh
                  clear h20 hb20
                  refine sat_prim (v := .bool (!((hasI ⟨(greatestD a.lo b.lo), (leastD a.hi b.hi)⟩ d) == (hasI b d)))) (by kernel_rfl) ?_
                  refine sat_falseP (b := (!((hasI ⟨(greatestD a.lo b.lo), (leastD a.hi b.hi)⟩ d) == (hasI b d)))) (by kernel_rfl) (by rw [show ((hasI ⟨(greatestD a.lo b.lo), (leastD a.hi b.hi)⟩ d) == (hasI b d)) = true from by rw [show hasI ⟨(greatestD a.lo b.lo), (leastD a.hi b.hi)⟩ d = _ from has_meet G hM, hA]; simp]; rfl) ?_
                  refine sat_prim (v := .bool ((0 : Int) != 0)) (by kernel_rfl) ?_
                  refine sat_falseP (b := ((0 : Int) != 0)) (by kernel_rfl) (by decide) ?_
                  refine sat_call #[.agg #[.bool a.lo.neg, .slice A_a n_a c_a, .int .i64 a.lo.e, .bool a.hi.neg, .slice B_a m_a k_a, .int .i64 a.hi.e], .agg #[.bool b.lo.neg, .slice A_b n_b c_b, .int .i64 b.lo.e, .bool b.hi.neg, .slice B_b m_b k_b, .int .i64 b.hi.e]] (by kernel_rfl) fun w21 h21 => ?_
                  refine (insideI_any _ _ a b _ (mkI (h21.rdD r_al) (h21.rdD r_ah)) (mkI (h21.rdD r_bl) (h21.rdD r_bh))).mono ?_
                  rintro e v21 ⟨rfl, hb21⟩
                  refine ⟨hb21, [.bool (insideI a b)], _, rfl, by kernel_rfl, by kernel_rfl, fun g21 => ?_⟩
                  replace r_al := g21.rdD r_al; replace r_ah := g21.rdD r_ah; replace r_bl := g21.rdD r_bl; replace r_bh := g21.rdD r_bh; replace r_d := g21.rdD r_d; replace r_hhl := g21.rdD r_hhl; replace r_hhh := g21.rdD r_hhh; replace r_mml := g21.rdD r_mml; replace r_mmh := g21.rdD r_mmh
                  clear h21 hb21
                  cases hI : (insideI a b)
                  · refine sat_false (by kernel_rfl) ?_
                    refine sat_call #[] (by kernel_rfl) fun w23 h23 => ?_
                    refine (told5_any _ (h23.tab hT)).mono ?_
                    rintro e v23 ⟨rfl, hb23⟩
                    refine ⟨hb23, [.bool true], _, rfl, by kernel_rfl, by kernel_rfl, fun g23 => ?_⟩
                    replace r_al := g23.rdD r_al; replace r_ah := g23.rdD r_ah; replace r_bl := g23.rdD r_bl; replace r_bh := g23.rdD r_bh; replace r_d := g23.rdD r_d; replace r_hhl := g23.rdD r_hhl; replace r_hhh := g23.rdD r_hhh; replace r_mml := g23.rdD r_mml; replace r_mmh := g23.rdD r_mmh
                    clear h23 hb23
                    refine sat_true (by kernel_rfl) ?_
                    refine sat_call #[.agg #[.bool a.lo.neg, .slice A_a n_a c_a, .int .i64 a.lo.e, .bool a.hi.neg, .slice B_a m_a k_a, .int .i64 a.hi.e], .agg #[.bool a.lo.neg, .slice A_a n_a c_a, .int .i64 a.lo.e, .bool a.hi.neg, .slice B_a m_a k_a, .int .i64 a.hi.e]] (by kernel_rfl) fun w24 h24 => ?_
                    refine (withinI_any _ _ a a _ (mkI (h24.rdD r_al) (h24.rdD r_ah)) (mkI (h24.rdD r_al) (h24.rdD r_ah))).mono ?_
                    rintro e v24 ⟨rfl, hb24⟩
                    refine ⟨hb24, [.bool (withinI a a)], _, rfl, by kernel_rfl, by kernel_rfl, fun g24 => ?_⟩
                    replace r_al := g24.rdD r_al; replace r_ah := g24.rdD r_ah; replace r_bl := g24.rdD r_bl; replace r_bh := g24.rdD r_bh; replace r_d := g24.rdD r_d; replace r_hhl := g24.rdD r_hhl; replace r_hhh := g24.rdD r_hhh; replace r_mml := g24.rdD r_mml; replace r_mmh := g24.rdD r_mmh
                    clear h24 hb24
                    refine sat_trueP (b := (withinI a a)) (by kernel_rfl) (within_self G) ?_
                    refine sat_call #[.agg #[.bool a.lo.neg, .slice A_a n_a c_a, .int .i64 a.lo.e, .bool a.hi.neg, .slice B_a m_a k_a, .int .i64 a.hi.e], .agg #[.bool a.lo.neg, .slice A_a n_a c_a, .int .i64 a.lo.e, .bool a.hi.neg, .slice B_a m_a k_a, .int .i64 a.hi.e]] (by kernel_rfl) fun w25 h25 => ?_
                    refine (insideI_any _ _ a a _ (mkI (h25.rdD r_al) (h25.rdD r_ah)) (mkI (h25.rdD r_al) (h25.rdD r_ah))).mono ?_
                    rintro e v25 ⟨rfl, hb25⟩
                    refine ⟨hb25, [.bool (insideI a a)], _, rfl, by kernel_rfl, by kernel_rfl, fun g25 => ?_⟩
                    replace r_al := g25.rdD r_al; replace r_ah := g25.rdD r_ah; replace r_bl := g25.rdD r_bl; replace r_bh := g25.rdD r_bh; replace r_d := g25.rdD r_d; replace r_hhl := g25.rdD r_hhl; replace r_hhh := g25.rdD r_hhh; replace r_mml := g25.rdD r_mml; replace r_mmh := g25.rdD r_mmh
                    clear h25 hb25
                    refine sat_prim (v := .bool (!(insideI a a))) (by kernel_rfl) ?_
                    refine sat_trueP (b := (!(insideI a a))) (by kernel_rfl) (by rw [show (insideI a a) = false from inside_self G]; rfl) ?_
                    refine sat_call #[.agg #[.bool a.lo.neg, .slice A_a n_a c_a, .int .i64 a.lo.e, .bool a.hi.neg, .slice B_a m_a k_a, .int .i64 a.hi.e], .agg #[.bool b.lo.neg, .slice A_b n_b c_b, .int .i64 b.lo.e, .bool b.hi.neg, .slice B_b m_b k_b, .int .i64 b.hi.e]] (by kernel_rfl) fun w26 h26 => ?_
                    refine (withinI_any _ _ a b _ (mkI (h26.rdD r_al) (h26.rdD r_ah)) (mkI (h26.rdD r_bl) (h26.rdD r_bh))).mono ?_
                    rintro e v26 ⟨rfl, hb26⟩
                    refine ⟨hb26, [.bool (withinI a b)], _, rfl, by kernel_rfl, by kernel_rfl, fun g26 => ?_⟩
                    replace r_al := g26.rdD r_al; replace r_ah := g26.rdD r_ah; replace r_bl := g26.rdD r_bl; replace r_bh := g26.rdD r_bh; replace r_d := g26.rdD r_d; replace r_hhl := g26.rdD r_hhl; replace r_hhh := g26.rdD r_hhh; replace r_mml := g26.rdD r_mml; replace r_mmh := g26.rdD r_mmh
                    clear h26 hb26
                    refine sat_prim (v := .bool (!(withinI a b))) (by kernel_rfl) ?_
                    cases hW : (withinI a b)
                    · refine sat_true (by kernel_rfl) ?_
                      refine sat_prim (v := .bool ((0 : Int) == 0)) (by kernel_rfl) ?_
                      refine sat_trueP (b := ((0 : Int) == 0)) (by kernel_rfl) (by simp) ?_
                      exact sat_ret (.bool true) (by kernel_rfl) fun w9 h9 => rfl
                    · refine sat_false (by kernel_rfl) ?_
                      refine sat_call #[.agg #[.bool (leastD a.lo b.lo).neg, .slice A_hh n_hh c_hh, .int .i64 (leastD a.lo b.lo).e, .bool (greatestD a.hi b.hi).neg, .slice B_hh m_hh k_hh, .int .i64 (greatestD a.hi b.hi).e], .agg #[.bool b.lo.neg, .slice A_b n_b c_b, .int .i64 b.lo.e, .bool b.hi.neg, .slice B_b m_b k_b, .int .i64 b.hi.e]] (by kernel_rfl) fun w28 h28 => ?_
                      refine (sameI_any _ _ ⟨(leastD a.lo b.lo), (greatestD a.hi b.hi)⟩ b _ (mkI (h28.rdD r_hhl) (h28.rdD r_hhh)) (mkI (h28.rdD r_bl) (h28.rdD r_bh))).mono ?_
                      rintro e v28 ⟨rfl, hb28⟩
                      refine ⟨hb28, [.bool (sameI ⟨(leastD a.lo b.lo), (greatestD a.hi b.hi)⟩ b)], _, rfl, by kernel_rfl, by kernel_rfl, fun g28 => ?_⟩
                      replace r_al := g28.rdD r_al; replace r_ah := g28.rdD r_ah; replace r_bl := g28.rdD r_bl; replace r_bh := g28.rdD r_bh; replace r_d := g28.rdD r_d; replace r_hhl := g28.rdD r_hhl; replace r_hhh := g28.rdD r_hhh; replace r_mml := g28.rdD r_mml; replace r_mmh := g28.rdD r_mmh
                      clear h28 hb28
                      refine sat_trueP (b := (sameI ⟨(leastD a.lo b.lo), (greatestD a.hi b.hi)⟩ b)) (by kernel_rfl) (same_hull G hW) ?_
                      refine sat_prim (v := .bool ((0 : Int) == 0)) (by kernel_rfl) ?_
                      refine sat_trueP (b := ((0 : Int) == 0)) (by kernel_rfl) (by simp) ?_
                      refine sat_call #[.agg #[.bool (greatestD a.lo b.lo).neg, .slice A_mm n_mm c_mm, .int .i64 (greatestD a.lo b.lo).e, .bool (leastD a.hi b.hi).neg, .slice B_mm m_mm k_mm, .int .i64 (leastD a.hi b.hi).e], .agg #[.bool a.lo.neg, .slice A_a n_a c_a, .int .i64 a.lo.e, .bool a.hi.neg, .slice B_a m_a k_a, .int .i64 a.hi.e]] (by kernel_rfl) fun w29 h29 => ?_
                      refine (sameI_any _ _ ⟨(greatestD a.lo b.lo), (leastD a.hi b.hi)⟩ a _ (mkI (h29.rdD r_mml) (h29.rdD r_mmh)) (mkI (h29.rdD r_al) (h29.rdD r_ah))).mono ?_
                      rintro e v29 ⟨rfl, hb29⟩
                      refine ⟨hb29, [.bool (sameI ⟨(greatestD a.lo b.lo), (leastD a.hi b.hi)⟩ a)], _, rfl, by kernel_rfl, by kernel_rfl, fun g29 => ?_⟩
                      replace r_al := g29.rdD r_al; replace r_ah := g29.rdD r_ah; replace r_bl := g29.rdD r_bl; replace r_bh := g29.rdD r_bh; replace r_d := g29.rdD r_d; replace r_hhl := g29.rdD r_hhl; replace r_hhh := g29.rdD r_hhh; replace r_mml := g29.rdD r_mml; replace r_mmh := g29.rdD r_mmh
                      clear h29 hb29
                      refine sat_trueP (b := (sameI ⟨(greatestD a.lo b.lo), (leastD a.hi b.hi)⟩ a)) (by kernel_rfl) (same_meet G hW) ?_
                      refine sat_prim (v := .bool ((0 : Int) == 0)) (by kernel_rfl) ?_
                      refine sat_trueP (b := ((0 : Int) == 0)) (by kernel_rfl) (by simp) ?_
                      exact sat_ret (.bool true) (by kernel_rfl) fun w9 h9 => rfl
                  · refine sat_true (by kernel_rfl) ?_
                    refine sat_call #[.agg #[.bool a.lo.neg, .slice A_a n_a c_a, .int .i64 a.lo.e, .bool a.hi.neg, .slice B_a m_a k_a, .int .i64 a.hi.e], .agg #[.bool b.lo.neg, .slice A_b n_b c_b, .int .i64 b.lo.e, .bool b.hi.neg, .slice B_b m_b k_b, .int .i64 b.hi.e]] (by kernel_rfl) fun w23 h23 => ?_
                    refine (withinI_any _ _ a b _ (mkI (h23.rdD r_al) (h23.rdD r_ah)) (mkI (h23.rdD r_bl) (h23.rdD r_bh))).mono ?_
                    rintro e v23 ⟨rfl, hb23⟩
                    refine ⟨hb23, [.bool (withinI a b)], _, rfl, by kernel_rfl, by kernel_rfl, fun g23 => ?_⟩
                    replace r_al := g23.rdD r_al; replace r_ah := g23.rdD r_ah; replace r_bl := g23.rdD r_bl; replace r_bh := g23.rdD r_bh; replace r_d := g23.rdD r_d; replace r_hhl := g23.rdD r_hhl; replace r_hhh := g23.rdD r_hhh; replace r_mml := g23.rdD r_mml; replace r_mmh := g23.rdD r_mmh
                    clear h23 hb23
                    refine sat_prim (v := .bool (!(withinI a b))) (by kernel_rfl) ?_
                    refine sat_falseP (b := (!(withinI a b))) (by kernel_rfl) (by rw [show (withinI a b) = true from in_within G hI]; rfl) ?_
                    refine sat_call #[.agg #[.bool b.lo.neg, .slice A_b n_b c_b, .int .i64 b.lo.e, .bool b.hi.neg, .slice B_b m_b k_b, .int .i64 b.hi.e], .agg #[.bool a.lo.neg, .slice A_a n_a c_a, .int .i64 a.lo.e, .bool a.hi.neg, .slice B_a m_a k_a, .int .i64 a.hi.e]] (by kernel_rfl) fun w24 h24 => ?_
                    refine (withinI_any _ _ b a _ (mkI (h24.rdD r_bl) (h24.rdD r_bh)) (mkI (h24.rdD r_al) (h24.rdD r_ah))).mono ?_
                    rintro e v24 ⟨rfl, hb24⟩
                    refine ⟨hb24, [.bool (withinI b a)], _, rfl, by kernel_rfl, by kernel_rfl, fun g24 => ?_⟩
                    replace r_al := g24.rdD r_al; replace r_ah := g24.rdD r_ah; replace r_bl := g24.rdD r_bl; replace r_bh := g24.rdD r_bh; replace r_d := g24.rdD r_d; replace r_hhl := g24.rdD r_hhl; replace r_hhh := g24.rdD r_hhh; replace r_mml := g24.rdD r_mml; replace r_mmh := g24.rdD r_mmh
                    clear h24 hb24
                    refine sat_falseP (b := (withinI b a)) (by kernel_rfl) (in_back G hI) ?_
                    refine sat_call #[.agg #[.bool a.lo.neg, .slice A_a n_a c_a, .int .i64 a.lo.e, .bool a.hi.neg, .slice B_a m_a k_a, .int .i64 a.hi.e], .agg #[.bool b.lo.neg, .slice A_b n_b c_b, .int .i64 b.lo.e, .bool b.hi.neg, .slice B_b m_b k_b, .int .i64 b.hi.e]] (by kernel_rfl) fun w25 h25 => ?_
                    refine (sameI_any _ _ a b _ (mkI (h25.rdD r_al) (h25.rdD r_ah)) (mkI (h25.rdD r_bl) (h25.rdD r_bh))).mono ?_
                    rintro e v25 ⟨rfl, hb25⟩
                    refine ⟨hb25, [.bool (sameI a b)], _, rfl, by kernel_rfl, by kernel_rfl, fun g25 => ?_⟩
                    replace r_al := g25.rdD r_al; replace r_ah := g25.rdD r_ah; replace r_bl := g25.rdD r_bl; replace r_bh := g25.rdD r_bh; replace r_d := g25.rdD r_d; replace r_hhl := g25.rdD r_hhl; replace r_hhh := g25.rdD r_hhh; replace r_mml := g25.rdD r_mml; replace r_mmh := g25.rdD r_mmh
                    clear h25 hb25
                    refine sat_falseP (b := (sameI a b)) (by kernel_rfl) (in_same G hI) ?_
                    refine sat_call #[] (by kernel_rfl) fun w26 h26 => ?_
                    refine (told5_any _ (h26.tab hT)).mono ?_
                    rintro e v26 ⟨rfl, hb26⟩
                    refine ⟨hb26, [.bool true], _, rfl, by kernel_rfl, by kernel_rfl, fun g26 => ?_⟩
                    replace r_al := g26.rdD r_al; replace r_ah := g26.rdD r_ah; replace r_bl := g26.rdD r_bl; replace r_bh := g26.rdD r_bh; replace r_d := g26.rdD r_d; replace r_hhl := g26.rdD r_hhl; replace r_hhh := g26.rdD r_hhh; replace r_mml := g26.rdD r_mml; replace r_mmh := g26.rdD r_mmh
                    clear h26 hb26
                    refine sat_true (by kernel_rfl) ?_
                    refine sat_call #[.agg #[.bool a.lo.neg, .slice A_a n_a c_a, .int .i64 a.lo.e, .bool a.hi.neg, .slice B_a m_a k_a, .int .i64 a.hi.e], .agg #[.bool a.lo.neg, .slice A_a n_a c_a, .int .i64 a.lo.e, .bool a.hi.neg, .slice B_a m_a k_a, .int .i64 a.hi.e]] (by kernel_rfl) fun w27 h27 => ?_
                    refine (withinI_any _ _ a a _ (mkI (h27.rdD r_al) (h27.rdD r_ah)) (mkI (h27.rdD r_al) (h27.rdD r_ah))).mono ?_
                    rintro e v27 ⟨rfl, hb27⟩
                    refine ⟨hb27, [.bool (withinI a a)], _, rfl, by kernel_rfl, by kernel_rfl, fun g27 => ?_⟩
                    replace r_al := g27.rdD r_al; replace r_ah := g27.rdD r_ah; replace r_bl := g27.rdD r_bl; replace r_bh := g27.rdD r_bh; replace r_d := g27.rdD r_d; replace r_hhl := g27.rdD r_hhl; replace r_hhh := g27.rdD r_hhh; replace r_mml := g27.rdD r_mml; replace r_mmh := g27.rdD r_mmh
                    clear h27 hb27
                    refine sat_trueP (b := (withinI a a)) (by kernel_rfl) (within_self G) ?_
                    refine sat_call #[.agg #[.bool a.lo.neg, .slice A_a n_a c_a, .int .i64 a.lo.e, .bool a.hi.neg, .slice B_a m_a k_a, .int .i64 a.hi.e], .agg #[.bool a.lo.neg, .slice A_a n_a c_a, .int .i64 a.lo.e, .bool a.hi.neg, .slice B_a m_a k_a, .int .i64 a.hi.e]] (by kernel_rfl) fun w28 h28 => ?_
                    refine (insideI_any _ _ a a _ (mkI (h28.rdD r_al) (h28.rdD r_ah)) (mkI (h28.rdD r_al) (h28.rdD r_ah))).mono ?_
                    rintro e v28 ⟨rfl, hb28⟩
                    refine ⟨hb28, [.bool (insideI a a)], _, rfl, by kernel_rfl, by kernel_rfl, fun g28 => ?_⟩
                    replace r_al := g28.rdD r_al; replace r_ah := g28.rdD r_ah; replace r_bl := g28.rdD r_bl; replace r_bh := g28.rdD r_bh; replace r_d := g28.rdD r_d; replace r_hhl := g28.rdD r_hhl; replace r_hhh := g28.rdD r_hhh; replace r_mml := g28.rdD r_mml; replace r_mmh := g28.rdD r_mmh
                    clear h28 hb28
                    refine sat_prim (v := .bool (!(insideI a a))) (by kernel_rfl) ?_
                    refine sat_trueP (b := (!(insideI a a))) (by kernel_rfl) (by rw [show (insideI a a) = false from inside_self G]; rfl) ?_
                    refine sat_call #[.agg #[.bool a.lo.neg, .slice A_a n_a c_a, .int .i64 a.lo.e, .bool a.hi.neg, .slice B_a m_a k_a, .int .i64 a.hi.e], .agg #[.bool b.lo.neg, .slice A_b n_b c_b, .int .i64 b.lo.e, .bool b.hi.neg, .slice B_b m_b k_b, .int .i64 b.hi.e]] (by kernel_rfl) fun w29 h29 => ?_
                    refine (withinI_any _ _ a b _ (mkI (h29.rdD r_al) (h29.rdD r_ah)) (mkI (h29.rdD r_bl) (h29.rdD r_bh))).mono ?_
                    rintro e v29 ⟨rfl, hb29⟩
                    refine ⟨hb29, [.bool (withinI a b)], _, rfl, by kernel_rfl, by kernel_rfl, fun g29 => ?_⟩
                    replace r_al := g29.rdD r_al; replace r_ah := g29.rdD r_ah; replace r_bl := g29.rdD r_bl; replace r_bh := g29.rdD r_bh; replace r_d := g29.rdD r_d; replace r_hhl := g29.rdD r_hhl; replace r_hhh := g29.rdD r_hhh; replace r_mml := g29.rdD r_mml; replace r_mmh := g29.rdD r_mmh
                    clear h29 hb29
                    refine sat_prim (v := .bool (!(withinI a b))) (by kernel_rfl) ?_
                    refine sat_falseP (b := (!(withinI a b))) (by kernel_rfl) (by rw [show (withinI a b) = true from in_within G hI]; rfl) ?_
                    refine sat_call #[.agg #[.bool (leastD a.lo b.lo).neg, .slice A_hh n_hh c_hh, .int .i64 (leastD a.lo b.lo).e, .bool (greatestD a.hi b.hi).neg, .slice B_hh m_hh k_hh, .int .i64 (greatestD a.hi b.hi).e], .agg #[.bool b.lo.neg, .slice A_b n_b c_b, .int .i64 b.lo.e, .bool b.hi.neg, .slice B_b m_b k_b, .int .i64 b.hi.e]] (by kernel_rfl) fun w30 h30 => ?_
                    refine (sameI_any _ _ ⟨(leastD a.lo b.lo), (greatestD a.hi b.hi)⟩ b _ (mkI (h30.rdD r_hhl) (h30.rdD r_hhh)) (mkI (h30.rdD r_bl) (h30.rdD r_bh))).mono ?_
                    rintro e v30 ⟨rfl, hb30⟩
                    refine ⟨hb30, [.bool (sameI ⟨(leastD a.lo b.lo), (greatestD a.hi b.hi)⟩ b)], _, rfl, by kernel_rfl, by kernel_rfl, fun g30 => ?_⟩
                    replace r_al := g30.rdD r_al; replace r_ah := g30.rdD r_ah; replace r_bl := g30.rdD r_bl; replace r_bh := g30.rdD r_bh; replace r_d := g30.rdD r_d; replace r_hhl := g30.rdD r_hhl; replace r_hhh := g30.rdD r_hhh; replace r_mml := g30.rdD r_mml; replace r_mmh := g30.rdD r_mmh
                    clear h30 hb30
                    refine sat_trueP (b := (sameI ⟨(leastD a.lo b.lo), (greatestD a.hi b.hi)⟩ b)) (by kernel_rfl) (same_hull G (in_within G hI)) ?_
                    refine sat_prim (v := .bool ((0 : Int) == 0)) (by kernel_rfl) ?_
                    refine sat_trueP (b := ((0 : Int) == 0)) (by kernel_rfl) (by simp) ?_
                    refine sat_call #[.agg #[.bool (greatestD a.lo b.lo).neg, .slice A_mm n_mm c_mm, .int .i64 (greatestD a.lo b.lo).e, .bool (leastD a.hi b.hi).neg, .slice B_mm m_mm k_mm, .int .i64 (leastD a.hi b.hi).e], .agg #[.bool a.lo.neg, .slice A_a n_a c_a, .int .i64 a.lo.e, .bool a.hi.neg, .slice B_a m_a k_a, .int .i64 a.hi.e]] (by kernel_rfl) fun w31 h31 => ?_
                    refine (sameI_any _ _ ⟨(greatestD a.lo b.lo), (leastD a.hi b.hi)⟩ a _ (mkI (h31.rdD r_mml) (h31.rdD r_mmh)) (mkI (h31.rdD r_al) (h31.rdD r_ah))).mono ?_
                    rintro e v31 ⟨rfl, hb31⟩
                    refine ⟨hb31, [.bool (sameI ⟨(greatestD a.lo b.lo), (leastD a.hi b.hi)⟩ a)], _, rfl, by kernel_rfl, by kernel_rfl, fun g31 => ?_⟩
                    replace r_al := g31.rdD r_al; replace r_ah := g31.rdD r_ah; replace r_bl := g31.rdD r_bl; replace r_bh := g31.rdD r_bh; replace r_d := g31.rdD r_d; replace r_hhl := g31.rdD r_hhl; replace r_hhh := g31.rdD r_hhh; replace r_mml := g31.rdD r_mml; replace r_mmh := g31.rdD r_mmh
                    clear h31 hb31
                    refine sat_trueP (b := (sameI ⟨(greatestD a.lo b.lo), (leastD a.hi b.hi)⟩ a)) (by kernel_rfl) (same_meet G (in_within G hI)) ?_
                    refine sat_prim (v := .bool ((0 : Int) == 0)) (by kernel_rfl) ?_
                    refine sat_trueP (b := ((0 : Int) == 0)) (by kernel_rfl) (by simp) ?_
                    exact sat_ret (.bool true) (by kernel_rfl) fun w9 h9 => rfl

end Go.Proofs.YtaifjldpjkabjaaDoor
