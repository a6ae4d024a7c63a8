/- The code of the functions that are reached, as the interpreter takes it; written by gencode.py. Its conditions: none. -/
import Derived.Test.YtnijbejobbajfaaAiA
set_option linter.unusedVariables false
namespace Go.Proofs.Ytnijbejobbajfaa.D
open Go.AI

/- canopy/canopylaw22.DispatchBegins -/
def c8 : AFn := { results := [.reg 8], body := (.seq (.region [(.box (.r 1), none),
    (.box (.r 3), none),
    (.move (.k (.bool false)), none)] [(5, 0), (7, 1), (8, 2)] [])
  (.seq (.region [(.bslice 0 (.agg [.int .i64 0, .bool false, .int .i64 0, .int .i64 0, .bool false, .bool false]) [], none),
    (.move (.r 0), none),
    (.app 6 40 (.l 0) (.l 1), none),
    (.move (.l 2), none)] [(9, 3)] [])
  (.seq (.region [(.move (.r 9), none),
    (.load (some 13) (.r 5), none),
    (.move (.r 2), none),
    (.call 36 [(.l 0), (.l 1), (.l 2)], none),
    (.move (.l 3), none),
    (.extract (.l 4) 0, none),
    (.extract (.l 4) 1, none),
    (.alloc (.agg [.str [], .bool false, .bool false, .bool false, .bool false, .bool false, .bool false, .bool false, .bool false, .int .u8 0, .int .i64 0, .int .i64 0, .int .i64 0, .list true [], .int .i64 0, .list true [], .bool false]), none),
    (.store 17 (.l 7) (.l 5), none),
    (.move (.l 6), none)] [(10, 7), (11, 9)] [])
  (.seq (.region [(.move (.r 0), none),
    (.load (some 13) (.r 5), none),
    (.move (.r 2), none),
    (.call 37 [(.l 0), (.l 1), (.l 2)], none),
    (.move (.l 3), none),
    (.extract (.l 4) 0, none),
    (.extract (.l 4) 1, none),
    (.alloc (.agg [.str [], .bool false, .bool false, .bool false, .bool false, .bool false, .bool false, .bool false, .bool false, .int .u8 0, .int .i64 0, .int .i64 0, .int .i64 0, .list true [], .int .i64 0, .list true [], .bool false]), none),
    (.store 17 (.l 7) (.l 5), none),
    (.move (.l 6), none)] [(12, 7), (13, 9)] [])
  (.seq (.region [(.load (some 17) (.r 7), none),
    (.call 38 [(.l 0)], none),
    (.move (.l 1), none),
    (.extract (.l 2) 0, none),
    (.extract (.l 2) 1, none),
    (.extract (.l 2) 2, none),
    (.alloc (.agg [.str [], .bool false, .bool false, .bool false, .bool false, .bool false, .bool false, .bool false, .bool false, .int .u8 0, .int .i64 0, .int .i64 0, .int .i64 0]), none),
    (.store 13 (.l 6) (.l 3), none),
    (.move (.l 4), none),
    (.move (.l 5), none)] [(14, 6), (15, 8), (16, 9)] [])
  (.seq (.region [(.load (some 17) (.r 7), none),
    (.call 39 [(.l 0)], none),
    (.move (.l 1), none),
    (.extract (.l 2) 0, none),
    (.extract (.l 2) 1, none),
    (.extract (.l 2) 2, none),
    (.alloc (.agg [.str [], .bool false, .bool false, .bool false, .bool false, .bool false, .bool false, .bool false, .bool false, .int .u8 0, .int .i64 0, .int .i64 0, .int .i64 0]), none),
    (.store 13 (.l 6) (.l 3), none),
    (.move (.l 4), none),
    (.move (.l 5), none)] [(17, 6), (18, 8), (19, 9)] [])
  (.seq (.region [(.load (some 17) (.r 10), none),
    (.load (some 17) (.r 12), none),
    (.call 40 [(.l 0), (.l 1)], none),
    (.move (.l 2), none),
    (.move (.r 11), (some (3, true))),
    (.move (.r 13), (some (3, true))),
    (.bin .eql .other (.l 4) (.l 5), (some (3, true))),
    (.pick (.l 3) (.l 6) (.k (.bool false)), none),
    (.move (.l 7), none),
    (.load (some 13) (.r 14), (some (8, true))),
    (.load (some 13) (.r 17), (some (8, true))),
    (.bin .eql (.agg [.str, .bool, .bool, .bool, .bool, .bool, .bool, .bool, .bool, .int, .int, .int, .int]) (.l 9) (.l 10), (some (8, true))),
    (.pick (.l 8) (.l 11) (.k (.bool false)), none),
    (.move (.l 12), none),
    (.move (.r 15), (some (13, true))),
    (.move (.r 18), (some (13, true))),
    (.bin .eql .bool (.l 14) (.l 15), (some (13, true))),
    (.pick (.l 13) (.l 16) (.k (.bool false)), none),
    (.move (.l 17), none),
    (.move (.r 16), (some (18, true))),
    (.move (.r 19), (some (18, true))),
    (.bin .eql .other (.l 19) (.l 20), (some (18, true))),
    (.pick (.l 18) (.l 21) (.k (.bool false)), none),
    (.move (.l 22), none),
    (.load (some 17) (.r 7), (some (23, true))),
    (.call 41 [(.l 24)], (some (23, true))),
    (.load (some 17) (.r 7), (some (23, true))),
    (.call 42 [(.l 26)], (some (23, true))),
    (.bin .eql .bool (.l 25) (.l 27), (some (23, true))),
    (.pick (.l 23) (.l 28) (.k (.bool false)), none),
    (.move (.l 29), none),
    (.move (.r 9), (some (30, true))),
    (.move (.r 0), (some (30, true))),
    (.call 43 [(.l 31), (.l 32)], (some (30, true))),
    (.pick (.l 30) (.l 33) (.k (.bool false)), none),
    (.move (.l 34), none),
    (.call 44 [], (some (35, true))),
    (.pick (.l 35) (.l 36) (.k (.bool false)), none),
    (.move (.l 37), none)] [(8, 38)] [(3, 3), (8, 8), (13, 13), (18, 18), (23, 23), (30, 30), (35, 35), (25, 26)])
  .ret))))))) }
/- canopy/canopylaw22.DispatchNexts -/
def c9 : AFn := { results := [.reg 4], body := (.seq (.region [(.box (.r 0), none),
    (.box (.r 1), none),
    (.move (.k (.bool false)), none)] [(2, 0), (3, 1), (4, 2)] [])
  (.seq (.region [(.load (some 17) (.r 3), none),
    (.call 45 [(.l 0)], none),
    (.alloc (.agg [.str [], .bool false, .bool false, .bool false, .bool false, .bool false, .bool false, .bool false, .bool false, .int .u8 0, .int .i64 0, .int .i64 0, .int .i64 0, .list true [], .int .i64 0, .list true [], .bool false]), none),
    (.store 17 (.l 2) (.l 1), none)] [(5, 2)] [])
  (.seq (.region [(.load (some 2) (.r 2), none),
    (.load (some 17) (.r 5), none),
    (.call 46 [(.l 0), (.l 1)], none),
    (.move (.l 2), none),
    (.extract (.l 3) 0, none),
    (.extract (.l 3) 1, none),
    (.extract (.l 3) 2, none),
    (.extract (.l 3) 3, none),
    (.extract (.l 3) 4, none),
    (.alloc (.agg [.str [], .bool false, .bool false, .bool false, .bool false, .bool false, .bool false, .bool false, .bool false, .int .u8 0, .int .i64 0, .int .i64 0, .int .i64 0, .list true [], .int .i64 0, .list true [], .bool false]), none),
    (.alloc (.agg [.list true [], .int .i64 0]), none),
    (.alloc (.agg [.int .i64 0, .int .i64 0, .int .i64 0]), none),
    (.store 17 (.l 9) (.l 4), none),
    (.store 2 (.l 10) (.l 5), none),
    (.store 3 (.l 11) (.l 6), none),
    (.move (.l 7), none),
    (.move (.l 8), none)] [(6, 9), (7, 10), (8, 11), (9, 15), (10, 16)] [])
  (.seq (.region [(.load (some 2) (.r 2), none),
    (.load (some 17) (.r 3), none),
    (.call 47 [(.l 0), (.l 1)], none),
    (.move (.l 2), none),
    (.extract (.l 3) 0, none),
    (.extract (.l 3) 1, none),
    (.extract (.l 3) 2, none),
    (.extract (.l 3) 3, none),
    (.extract (.l 3) 4, none),
    (.alloc (.agg [.str [], .bool false, .bool false, .bool false, .bool false, .bool false, .bool false, .bool false, .bool false, .int .u8 0, .int .i64 0, .int .i64 0, .int .i64 0, .list true [], .int .i64 0, .list true [], .bool false]), none),
    (.alloc (.agg [.list true [], .int .i64 0]), none),
    (.alloc (.agg [.int .i64 0, .int .i64 0, .int .i64 0]), none),
    (.store 17 (.l 9) (.l 4), none),
    (.store 2 (.l 10) (.l 5), none),
    (.store 3 (.l 11) (.l 6), none),
    (.move (.l 7), none),
    (.move (.l 8), none)] [(11, 9), (12, 10), (13, 11), (14, 15), (15, 16)] [])
  (.seq (.region [(.load (some 17) (.r 6), none),
    (.load (some 17) (.r 11), none),
    (.call 40 [(.l 0), (.l 1)], none),
    (.move (.l 2), none),
    (.load (some 2) (.r 7), (some (3, true))),
    (.load (some 2) (.r 12), (some (3, true))),
    (.call 20 [(.l 4), (.l 5)], (some (3, true))),
    (.pick (.l 3) (.l 6) (.k (.bool false)), none),
    (.move (.l 7), none),
    (.load (some 3) (.r 8), (some (8, true))),
    (.load (some 3) (.r 13), (some (8, true))),
    (.bin .eql (.agg [.int, .int, .int]) (.l 9) (.l 10), (some (8, true))),
    (.pick (.l 8) (.l 11) (.k (.bool false)), none),
    (.move (.l 12), none),
    (.move (.r 9), (some (13, true))),
    (.move (.r 14), (some (13, true))),
    (.bin .eql .bool (.l 14) (.l 15), (some (13, true))),
    (.pick (.l 13) (.l 16) (.k (.bool false)), none),
    (.move (.l 17), none),
    (.move (.r 10), (some (18, true))),
    (.move (.r 15), (some (18, true))),
    (.bin .eql .other (.l 19) (.l 20), (some (18, true))),
    (.pick (.l 18) (.l 21) (.k (.bool false)), none),
    (.move (.l 22), none),
    (.load (some 17) (.r 5), (some (23, true))),
    (.load (some 17) (.r 3), (some (23, true))),
    (.call 40 [(.l 24), (.l 25)], (some (23, true))),
    (.pick (.l 23) (.l 26) (.k (.bool false)), none),
    (.move (.l 27), none),
    (.call 44 [], (some (28, true))),
    (.pick (.l 28) (.l 29) (.k (.bool false)), none),
    (.move (.l 30), none)] [(4, 31)] [(3, 3), (8, 8), (13, 13), (18, 18), (23, 23), (28, 28)])
  .ret))))) }
/- canopy/canopylaw22.DispatchActs -/
def c10 : AFn := { results := [.reg 4], body := (.seq (.region [(.box (.r 0), none),
    (.move (.k (.bool false)), none)] [(2, 0), (4, 1)] [])
  (.seq (.region [(.load (some 17) (.r 2), none),
    (.move (.r 1), none),
    (.call 48 [(.l 0), (.l 1)], none),
    (.move (.l 2), none),
    (.extract (.l 3) 0, none),
    (.extract (.l 3) 1, none),
    (.alloc (.agg [.str [], .bool false, .bool false, .bool false, .bool false, .bool false, .bool false, .bool false, .bool false, .int .u8 0, .int .i64 0, .int .i64 0, .int .i64 0, .list true [], .int .i64 0, .list true [], .bool false]), none),
    (.store 17 (.l 6) (.l 4), none),
    (.move (.l 5), none)] [(5, 6), (6, 8)] [])
  (.seq (.region [(.load (some 17) (.r 2), none),
    (.move (.r 1), none),
    (.call 49 [(.l 0), (.l 1)], none),
    (.move (.l 2), none),
    (.extract (.l 3) 0, none),
    (.extract (.l 3) 1, none),
    (.alloc (.agg [.str [], .bool false, .bool false, .bool false, .bool false, .bool false, .bool false, .bool false, .bool false, .int .u8 0, .int .i64 0, .int .i64 0, .int .i64 0, .list true [], .int .i64 0, .list true [], .bool false]), none),
    (.store 17 (.l 6) (.l 4), none),
    (.move (.l 5), none)] [(7, 6), (8, 8)] [])
  (.seq (.region [(.load (some 17) (.r 5), none),
    (.load (some 17) (.r 7), none),
    (.call 40 [(.l 0), (.l 1)], none),
    (.move (.l 2), none),
    (.move (.r 6), (some (3, true))),
    (.move (.r 8), (some (3, true))),
    (.bin .eql .other (.l 4) (.l 5), (some (3, true))),
    (.pick (.l 3) (.l 6) (.k (.bool false)), none),
    (.move (.l 7), none),
    (.call 44 [], (some (8, true))),
    (.pick (.l 8) (.l 9) (.k (.bool false)), none),
    (.move (.l 10), none)] [(4, 11)] [(3, 3), (8, 8)])
  .ret)))) }
/- canopy/canopylaw22.DispatchAlls -/
def c11 : AFn := { results := [.reg 10], body := (.seq (.region [(.box (.r 0), none),
    (.box (.r 2), none),
    (.move (.k (.bool false)), none)] [(5, 0), (7, 1), (10, 2)] [])
  (.seq (.region [(.load (some 2) (.r 5), none),
    (.move (.r 1), none),
    (.load (some 13) (.r 7), none),
    (.move (.r 3), none),
    (.move (.r 4), none),
    (.call 50 [(.l 0), (.l 1), (.l 2), (.l 3), (.l 4)], none),
    (.move (.l 5), none),
    (.extract (.l 6) 0, none),
    (.extract (.l 6) 1, none),
    (.extract (.l 6) 2, none),
    (.extract (.l 6) 3, none),
    (.extract (.l 6) 4, none),
    (.alloc (.agg [.list true [], .int .i64 0]), none),
    (.alloc (.agg [.str [], .bool false, .bool false, .bool false, .bool false, .bool false, .bool false, .bool false, .bool false, .int .u8 0, .int .i64 0, .int .i64 0, .int .i64 0]), none),
    (.move (.l 7), none),
    (.store 2 (.l 12) (.l 8), none),
    (.store 13 (.l 13) (.l 9), none),
    (.move (.l 10), none),
    (.move (.l 11), none)] [(12, 12), (13, 13), (11, 14), (14, 17), (15, 18)] [])
  (.seq (.region [(.load (some 2) (.r 5), none),
    (.move (.r 1), none),
    (.load (some 13) (.r 7), none),
    (.move (.r 3), none),
    (.move (.r 4), none),
    (.call 51 [(.l 0), (.l 1), (.l 2), (.l 3), (.l 4)], none),
    (.move (.l 5), none),
    (.extract (.l 6) 0, none),
    (.extract (.l 6) 1, none),
    (.extract (.l 6) 2, none),
    (.extract (.l 6) 3, none),
    (.extract (.l 6) 4, none),
    (.alloc (.agg [.list true [], .int .i64 0]), none),
    (.alloc (.agg [.str [], .bool false, .bool false, .bool false, .bool false, .bool false, .bool false, .bool false, .bool false, .int .u8 0, .int .i64 0, .int .i64 0, .int .i64 0]), none),
    (.move (.l 7), none),
    (.store 2 (.l 12) (.l 8), none),
    (.store 13 (.l 13) (.l 9), none),
    (.move (.l 10), none),
    (.move (.l 11), none)] [(17, 12), (18, 13), (16, 14), (19, 17), (20, 18)] [])
  (.seq (.region [(.move (.r 11), none),
    (.move (.r 16), none),
    (.call 52 [(.l 0), (.l 1)], none),
    (.move (.l 2), none),
    (.load (some 2) (.r 12), (some (3, true))),
    (.load (some 2) (.r 17), (some (3, true))),
    (.call 20 [(.l 4), (.l 5)], (some (3, true))),
    (.pick (.l 3) (.l 6) (.k (.bool false)), none),
    (.move (.l 7), none),
    (.load (some 13) (.r 13), (some (8, true))),
    (.load (some 13) (.r 18), (some (8, true))),
    (.bin .eql (.agg [.str, .bool, .bool, .bool, .bool, .bool, .bool, .bool, .bool, .int, .int, .int, .int]) (.l 9) (.l 10), (some (8, true))),
    (.pick (.l 8) (.l 11) (.k (.bool false)), none),
    (.move (.l 12), none),
    (.move (.r 14), (some (13, true))),
    (.move (.r 19), (some (13, true))),
    (.bin .eql .bool (.l 14) (.l 15), (some (13, true))),
    (.pick (.l 13) (.l 16) (.k (.bool false)), none),
    (.move (.l 17), none),
    (.move (.r 15), (some (18, true))),
    (.move (.r 20), (some (18, true))),
    (.bin .eql .other (.l 19) (.l 20), (some (18, true))),
    (.pick (.l 18) (.l 21) (.k (.bool false)), none),
    (.move (.l 22), none),
    (.call 44 [], (some (23, true))),
    (.pick (.l 23) (.l 24) (.k (.bool false)), none),
    (.move (.l 25), none)] [(10, 26)] [(3, 3), (8, 8), (13, 13), (18, 18), (23, 23)])
  .ret)))) }
/- canopy/canopylaw22.DispatchDown -/
def c12B0 : C := (.seq (.seq (.region [(.move (.r 16), none),
    (.move (.r 9), none),
    (.len .sl (.l 1), none),
    (.bin .lss .other (.l 0) (.l 2), none)] [(63, 3)] [])
  (.cond (.r 63) .skip
   (.exit 0)))
  (.seq (.block 1 (.seq (.region [(.load (some 2) (.r 4), none),
    (.move (.r 9), none),
    (.move (.r 16), none),
    (.iaddr 3 (.l 1) (.l 2), none),
    (.faddr 0 (.l 3), none),
    (.load none (.l 4), none),
    (.call 54 [(.l 0), (.l 5)], none),
    (.move (.l 6), none),
    (.extract (.l 7) 0, none),
    (.extract (.l 7) 1, none),
    (.alloc (.agg [.int .i64 0, .int .i64 0, .str [], .int .i64 0, .bool false, .bool false, .int .u8 0, .int .i64 0]), none),
    (.store 8 (.l 10) (.l 8), none),
    (.move (.l 9), none)] [(17, 10), (18, 12)] [(0, 10), (3, 10), (5, 10), (6, 10)])
  (.seq (.region [(.move (.r 9), none),
    (.move (.r 16), none),
    (.iaddr 3 (.l 0) (.l 1), none),
    (.faddr 2 (.l 2), none),
    (.load none (.l 3), none),
    (.move (.l 4), none)] [(19, 5)] [])
  (.seq (.seq (.region [(.move (.r 18), none),
    (.un .not (.l 0), none),
    (.move (.l 1), none),
    (.move (.r 19), (some (2, false))),
    (.bin .lss .other (.l 3) (.k (.int .i64 0)), (some (2, false))),
    (.pick (.l 2) (.k (.bool true)) (.l 4), none),
    (.move (.l 5), none),
    (.move (.r 19), (some (6, false))),
    (.move (.r 1), (some (6, false))),
    (.len .sl (.l 8), (some (6, false))),
    (.bin .geq .other (.l 7) (.l 9), (some (6, false))),
    (.pick (.l 6) (.k (.bool true)) (.l 10), none),
    (.move (.l 11), none),
    (.faddr 1 (.r 17), (some (12, false))),
    (.load none (.l 13), (some (12, false))),
    (.move (.r 1), (some (12, false))),
    (.move (.r 19), (some (12, false))),
    (.iaddr 6 (.l 15) (.l 16), (some (12, false))),
    (.faddr 0 (.l 17), (some (12, false))),
    (.load none (.l 18), (some (12, false))),
    (.bin .neq .other (.l 14) (.l 19), (some (12, false))),
    (.pick (.l 12) (.k (.bool true)) (.l 20), none),
    (.move (.l 21), none),
    (.faddr 2 (.r 17), (some (22, false))),
    (.load none (.l 23), (some (22, false))),
    (.faddr 0 (.r 6), (some (22, false))),
    (.load none (.l 25), (some (22, false))),
    (.bin .neq .other (.l 24) (.l 26), (some (22, false))),
    (.pick (.l 22) (.k (.bool true)) (.l 27), none),
    (.move (.l 28), none),
    (.faddr 3 (.r 17), (some (29, false))),
    (.load none (.l 30), (some (29, false))),
    (.move (.r 9), (some (29, false))),
    (.move (.r 16), (some (29, false))),
    (.iaddr 3 (.l 32) (.l 33), (some (29, false))),
    (.faddr 1 (.l 34), (some (29, false))),
    (.load none (.l 35), (some (29, false))),
    (.bin .neq .other (.l 31) (.l 36), (some (29, false))),
    (.pick (.l 29) (.k (.bool true)) (.l 37), none)] [(119, 38)] [(2, 2), (6, 6), (12, 12), (22, 22), (29, 29)])
  (.cond (.r 119) (.seq (.region [(.move (.k (.bool false)), none)] [(8, 0)] [])
   .ret)
   .skip))
  (.seq (.region [(.move (.r 1), none),
    (.len .sl (.l 0), none),
    (.bin .sub .other (.l 1) (.k (.int .i64 1)), none),
    (.move (.r 19), none),
    (.bin .sub .other (.l 2) (.l 3), none),
    (.move (.l 4), none)] [(20, 5)] [])
  (.seq (.seq (.region [(.faddr 4 (.r 17), none),
    (.load none (.l 0), none),
    (.un .not (.l 1), none)] [(127, 2)] [])
  (.cond (.r 127) (.region [(.move (.r 1), none),
     (.len .sl (.l 0), none),
     (.move (.r 19), none),
     (.bin .add .other (.l 1) (.l 2), none),
     (.move (.l 3), none)] [(20, 4)] [])
   .skip))
  (.seq (.seq (.region [(.move (.r 20), none),
    (.move (.r 14), none),
    (.bin .lss .other (.l 0) (.l 1), none),
    (.move (.l 2), none),
    (.move (.r 20), (some (3, false))),
    (.move (.r 14), (some (3, false))),
    (.bin .eql .other (.l 4) (.l 5), (some (3, false))),
    (.move (.l 6), (some (3, false))),
    (.move (.r 9), (some (7, true))),
    (.move (.r 16), (some (7, true))),
    (.iaddr 3 (.l 8) (.l 9), (some (7, true))),
    (.faddr 0 (.l 10), (some (7, true))),
    (.load none (.l 11), (some (7, true))),
    (.move (.r 15), (some (7, true))),
    (.bin .leq .other (.l 12) (.l 13), (some (7, true))),
    (.pick (.l 7) (.l 14) (.k (.bool false)), (some (3, false))),
    (.pick (.l 3) (.k (.bool true)) (.l 15), none)] [(148, 16)] [(3, 3), (7, 7)])
  (.cond (.r 148) (.seq (.region [(.move (.k (.bool false)), none)] [(8, 0)] [])
   .ret)
   .skip))
  (.seq (.region [(.move (.r 20), none),
    (.move (.l 0), none)] [(14, 1)] [])
  (.region [(.move (.r 9), none),
    (.move (.r 16), none),
    (.iaddr 3 (.l 0) (.l 1), none),
    (.faddr 0 (.l 2), none),
    (.load none (.l 3), none),
    (.move (.l 4), none)] [(15, 5)] [])))))))))
  (.region [(.move (.r 16), none),
    (.bin .add .other (.l 0) (.k (.int .i64 1)), none),
    (.move (.l 1), none)] [(16, 2)] [])))
def c12B1 : C := (.seq (.seq (.region [(.move (.r 23), none),
    (.move (.r 1), none),
    (.len .sl (.l 1), none),
    (.bin .lss .other (.l 0) (.l 2), none)] [(165, 3)] [])
  (.cond (.r 165) .skip
   (.exit 4)))
  (.seq (.block 5 (.seq (.region [(.faddr 0 (.r 4), none),
    (.load none (.l 0), none),
    (.move (.r 22), none),
    (.iaddr 8 (.l 1) (.l 2), none),
    (.load (some 8) (.l 3), none),
    (.alloc (.agg [.int .i64 0, .int .i64 0, .str [], .int .i64 0, .bool false, .bool false, .int .u8 0, .int .i64 0]), none),
    (.store 8 (.l 5) (.l 4), none)] [(24, 5)] [])
  (.seq (.region [(.faddr 1 (.r 24), none),
    (.load none (.l 0), none),
    (.move (.r 1), none),
    (.move (.r 23), none),
    (.iaddr 6 (.l 2) (.l 3), none),
    (.faddr 0 (.l 4), none),
    (.load none (.l 5), none),
    (.bin .eql .other (.l 1) (.l 6), none),
    (.move (.l 7), none),
    (.faddr 2 (.r 24), (some (8, true))),
    (.load none (.l 9), (some (8, true))),
    (.faddr 0 (.r 6), (some (8, true))),
    (.load none (.l 11), (some (8, true))),
    (.bin .eql .other (.l 10) (.l 12), (some (8, true))),
    (.pick (.l 8) (.l 13) (.k (.bool false)), none),
    (.move (.l 14), none),
    (.faddr 4 (.r 24), (some (15, true))),
    (.load none (.l 16), (some (15, true))),
    (.move (.l 17), (some (15, true))),
    (.move (.r 1), (some (18, false))),
    (.move (.r 23), (some (18, false))),
    (.iaddr 6 (.l 19) (.l 20), (some (18, false))),
    (.faddr 2 (.l 21), (some (18, false))),
    (.load none (.l 22), (some (18, false))),
    (.bin .neq .other (.l 23) (.k (.int .i64 0)), (some (18, false))),
    (.pick (.l 18) (.k (.bool true)) (.l 24), (some (15, true))),
    (.move (.l 25), (some (15, true))),
    (.faddr 1 (.r 6), (some (26, false))),
    (.load none (.l 27), (some (26, false))),
    (.pick (.l 26) (.k (.bool true)) (.l 28), (some (15, true))),
    (.pick (.l 15) (.l 29) (.k (.bool false)), none)] [(203, 30)] [(8, 8), (15, 15), (18, 18), (26, 26)])
  (.cond (.r 203) (.region [(.move (.r 21), none),
     (.bin .add .other (.l 0) (.k (.int .i64 1)), none),
     (.move (.l 1), none)] [(21, 2)] [])
   .skip))))
  (.region [(.move (.r 23), none),
    (.bin .add .other (.l 0) (.k (.int .i64 1)), none),
    (.move (.l 1), none)] [(23, 2)] [])))
def c12B2 : C := (.seq (.seq (.region [(.move (.r 22), none),
    (.faddr 0 (.r 4), none),
    (.load none (.l 1), none),
    (.len .sl (.l 2), none),
    (.bin .lss .other (.l 0) (.l 3), none)] [(159, 4)] [])
  (.cond (.r 159) .skip
   (.exit 2)))
  (.seq (.block 3 (.seq (.region [(.move (.k (.int .i64 0)), none)] [(23, 0)] [])
  (.block 4 (.loop c12B1))))
  (.region [(.move (.r 22), none),
    (.bin .add .other (.l 0) (.k (.int .i64 1)), none),
    (.move (.l 1), none)] [(22, 2)] [])))
def c12 : AFn := { results := [.reg 8], body := (.seq (.region [(.box (.r 0), none),
    (.box (.r 2), none),
    (.move (.k (.bool false)), none)] [(4, 0), (6, 1), (8, 2)] [])
  (.seq (.seq (.region [(.call 44 [], none),
    (.un .not (.l 0), none)] [(26, 1)] [])
  (.cond (.r 26) (.seq (.region [(.move (.k (.bool false)), none)] [(8, 0)] [])
   .ret)
   .skip))
  (.seq (.region [(.load (some 2) (.r 4), none),
    (.move (.r 1), none),
    (.load (some 13) (.r 6), none),
    (.move (.r 3), none),
    (.call 50 [(.l 0), (.l 1), (.l 2), (.l 3), (.k (.list true []))], none),
    (.move (.l 4), none),
    (.extract (.l 5) 0, none),
    (.extract (.l 5) 1, none),
    (.extract (.l 5) 2, none),
    (.extract (.l 5) 3, none),
    (.extract (.l 5) 4, none),
    (.alloc (.agg [.list true [], .int .i64 0]), none),
    (.alloc (.agg [.str [], .bool false, .bool false, .bool false, .bool false, .bool false, .bool false, .bool false, .bool false, .int .u8 0, .int .i64 0, .int .i64 0, .int .i64 0]), none),
    (.move (.l 6), none),
    (.store 2 (.l 11) (.l 7), none),
    (.store 13 (.l 12) (.l 8), none),
    (.move (.l 9), none),
    (.move (.l 10), none)] [(9, 13), (13, 17)] [])
  (.seq (.seq (.region [(.move (.r 13), none),
    (.bin .neq .other (.l 0) (.k (.int .i64 0)), none),
    (.move (.l 1), none),
    (.faddr 5 (.r 6), (some (2, false))),
    (.load none (.l 3), (some (2, false))),
    (.pick (.l 2) (.k (.bool true)) (.l 4), none),
    (.move (.l 5), none),
    (.faddr 6 (.r 6), (some (6, false))),
    (.load none (.l 7), (some (6, false))),
    (.pick (.l 6) (.k (.bool true)) (.l 8), none),
    (.move (.l 9), none),
    (.move (.r 1), (some (10, false))),
    (.call 53 [(.l 11)], (some (10, false))),
    (.un .not (.l 12), (some (10, false))),
    (.pick (.l 10) (.k (.bool true)) (.l 13), none)] [(52, 14)] [(2, 2), (6, 6), (10, 10)])
  (.cond (.r 52) (.seq (.region [(.move (.r 13), none),
     (.bin .eql .other (.l 0) (.k (.int .i64 0)), none),
     (.move (.l 1), none),
     (.move (.r 9), (some (2, false))),
     (.len .sl (.l 3), (some (2, false))),
     (.bin .eql .other (.l 4) (.k (.int .i64 0)), (some (2, false))),
     (.pick (.l 2) (.k (.bool true)) (.l 5), none),
     (.move (.l 6), none)] [(8, 7)] [(2, 2)])
   .ret)
   .skip))
  (.seq (.region [(.move (.k (.int .i64 (-1))), none)] [(14, 0)] [])
  (.seq (.region [(.move (.k (.int .i64 0)), none)] [(15, 0)] [])
  (.seq (.seq (.region [(.move (.k (.int .i64 0)), none)] [(16, 0)] [])
  (.block 0 (.loop c12B0)))
  (.seq (.region [(.move (.k (.int .i64 0)), none)] [(21, 0)] [])
  (.seq (.seq (.region [(.move (.k (.int .i64 0)), none)] [(22, 0)] [])
  (.block 2 (.loop c12B2)))
  (.seq (.region [(.move (.r 21), none),
    (.move (.r 9), none),
    (.len .sl (.l 1), none),
    (.bin .eql .other (.l 0) (.l 2), none),
    (.move (.l 3), none)] [(8, 4)] [])
  .ret)))))))))) }
/- canopy/canopylaw22.DispatchStopped -/
def c13B0 : C := (.seq (.seq (.region [(.move (.r 16), none),
    (.bin .add .other (.l 0) (.k (.int .i64 1)), none),
    (.move (.r 11), none),
    (.len .sl (.l 2), none),
    (.bin .lss .other (.l 1) (.l 3), none)] [(68, 4)] [])
  (.cond (.r 68) .skip
   (.exit 0)))
  (.seq (.block 1 (.seq (.seq (.region [(.move (.r 4), none),
    (.move (.r 11), none),
    (.move (.r 16), none),
    (.iaddr 3 (.l 1) (.l 2), none),
    (.faddr 1 (.l 3), none),
    (.load none (.l 4), none),
    (.call 55 [(.l 0), (.l 5), (.k (.int .u8 2))], none)] [(77, 6)] [])
  (.cond (.r 77) (.seq (.region [(.move (.k (.bool false)), none)] [(10, 0)] [])
   .ret)
   .skip))
  (.seq (.region [(.load (some 2) (.r 5), none),
    (.move (.r 11), none),
    (.move (.r 16), none),
    (.iaddr 3 (.l 1) (.l 2), none),
    (.faddr 0 (.l 3), none),
    (.load none (.l 4), none),
    (.call 54 [(.l 0), (.l 5)], none),
    (.move (.l 6), none),
    (.extract (.l 7) 0, none),
    (.extract (.l 7) 1, none),
    (.alloc (.agg [.int .i64 0, .int .i64 0, .str [], .int .i64 0, .bool false, .bool false, .int .u8 0, .int .i64 0]), none),
    (.store 8 (.l 10) (.l 8), none),
    (.move (.l 9), none)] [(17, 10), (18, 12)] [(0, 10), (3, 10), (5, 10), (6, 10)])
  (.seq (.region [(.load (some 2) (.r 5), none),
    (.move (.r 11), none),
    (.move (.r 16), none),
    (.bin .add .other (.l 2) (.k (.int .i64 1)), none),
    (.iaddr 3 (.l 1) (.l 3), none),
    (.faddr 0 (.l 4), none),
    (.load none (.l 5), none),
    (.call 54 [(.l 0), (.l 6)], none),
    (.move (.l 7), none),
    (.extract (.l 8) 0, none),
    (.extract (.l 8) 1, none),
    (.alloc (.agg [.int .i64 0, .int .i64 0, .str [], .int .i64 0, .bool false, .bool false, .int .u8 0, .int .i64 0]), none),
    (.store 8 (.l 11) (.l 9), none),
    (.move (.l 10), none)] [(19, 11), (20, 13)] [(0, 11), (4, 11), (6, 11), (7, 11)])
  (.seq (.region [(.move (.r 18), none),
    (.un .not (.l 0), none),
    (.move (.l 1), none),
    (.move (.r 20), (some (2, false))),
    (.un .not (.l 3), (some (2, false))),
    (.pick (.l 2) (.k (.bool true)) (.l 4), none),
    (.move (.l 5), none),
    (.move (.r 4), (some (6, false))),
    (.move (.r 11), (some (6, false))),
    (.move (.r 16), (some (6, false))),
    (.iaddr 3 (.l 8) (.l 9), (some (6, false))),
    (.faddr 1 (.l 10), (some (6, false))),
    (.load none (.l 11), (some (6, false))),
    (.call 55 [(.l 7), (.l 12), (.k (.int .u8 1))], (some (6, false))),
    (.move (.l 13), (some (6, false))),
    (.move (.r 11), (some (14, true))),
    (.move (.r 16), (some (14, true))),
    (.iaddr 3 (.l 15) (.l 16), (some (14, true))),
    (.faddr 2 (.l 17), (some (14, true))),
    (.load none (.l 18), (some (14, true))),
    (.move (.r 11), (some (14, true))),
    (.move (.r 16), (some (14, true))),
    (.bin .add .other (.l 21) (.k (.int .i64 1)), (some (14, true))),
    (.iaddr 3 (.l 20) (.l 22), (some (14, true))),
    (.faddr 2 (.l 23), (some (14, true))),
    (.load none (.l 24), (some (14, true))),
    (.bin .neq .other (.l 19) (.l 25), (some (14, true))),
    (.move (.l 26), (some (14, true))),
    (.faddr 4 (.r 17), (some (27, false))),
    (.load none (.l 28), (some (27, false))),
    (.faddr 4 (.r 19), (some (27, false))),
    (.load none (.l 30), (some (27, false))),
    (.bin .neq .bool (.l 29) (.l 31), (some (27, false))),
    (.pick (.l 27) (.k (.bool true)) (.l 32), (some (14, true))),
    (.pick (.l 14) (.l 33) (.k (.bool false)), (some (6, false))),
    (.pick (.l 6) (.k (.bool true)) (.l 34), none)] [(134, 35)] [(2, 2), (6, 6), (14, 14), (27, 27)])
  (.cond (.r 134) (.seq (.region [(.move (.k (.bool false)), none)] [(10, 0)] [])
   .ret)
   .skip))))))
  (.region [(.move (.r 16), none),
    (.bin .add .other (.l 0) (.k (.int .i64 1)), none),
    (.move (.l 1), none)] [(16, 2)] [])))
def c13 : AFn := { results := [.reg 10], body := (.seq (.region [(.box (.r 0), none),
    (.box (.r 2), none),
    (.move (.k (.bool false)), none)] [(5, 0), (7, 1), (10, 2)] [])
  (.seq (.seq (.region [(.call 44 [], none),
    (.un .not (.l 0), none)] [(22, 1)] [])
  (.cond (.r 22) (.seq (.region [(.move (.k (.bool false)), none)] [(10, 0)] [])
   .ret)
   .skip))
  (.seq (.region [(.load (some 2) (.r 5), none),
    (.move (.r 1), none),
    (.load (some 13) (.r 7), none),
    (.move (.r 3), none),
    (.move (.r 4), none),
    (.call 50 [(.l 0), (.l 1), (.l 2), (.l 3), (.l 4)], none),
    (.move (.l 5), none),
    (.extract (.l 6) 0, none),
    (.extract (.l 6) 1, none),
    (.extract (.l 6) 2, none),
    (.extract (.l 6) 3, none),
    (.extract (.l 6) 4, none),
    (.alloc (.agg [.list true [], .int .i64 0]), none),
    (.alloc (.agg [.str [], .bool false, .bool false, .bool false, .bool false, .bool false, .bool false, .bool false, .bool false, .int .u8 0, .int .i64 0, .int .i64 0, .int .i64 0]), none),
    (.move (.l 7), none),
    (.store 2 (.l 12) (.l 8), none),
    (.store 13 (.l 13) (.l 9), none),
    (.move (.l 10), none),
    (.move (.l 11), none)] [(13, 13), (11, 14), (15, 18)] [])
  (.seq (.seq (.region [(.move (.r 15), none),
    (.bin .neq .other (.l 0) (.k (.int .i64 0)), none)] [(36, 1)] [])
  (.cond (.r 36) (.seq (.region [(.move (.r 11), none),
     (.len .sl (.l 0), none),
     (.bin .eql .other (.l 1) (.k (.int .i64 0)), none),
     (.move (.l 2), none)] [(10, 3)] [])
   .ret)
   .skip))
  (.seq (.seq (.region [(.faddr 8 (.r 13), none),
    (.load none (.l 0), none),
    (.move (.l 1), none),
    (.faddr 5 (.r 13), (some (2, false))),
    (.load none (.l 3), (some (2, false))),
    (.pick (.l 2) (.k (.bool true)) (.l 4), none),
    (.move (.l 5), none),
    (.faddr 6 (.r 13), (some (6, false))),
    (.load none (.l 7), (some (6, false))),
    (.pick (.l 6) (.k (.bool true)) (.l 8), none),
    (.move (.l 9), none),
    (.faddr 7 (.r 13), (some (10, false))),
    (.load none (.l 11), (some (10, false))),
    (.pick (.l 10) (.k (.bool true)) (.l 12), none),
    (.move (.l 13), none),
    (.faddr 9 (.r 13), (some (14, false))),
    (.load none (.l 15), (some (14, false))),
    (.bin .neq .other (.l 16) (.k (.int .u8 0)), (some (14, false))),
    (.pick (.l 14) (.k (.bool true)) (.l 17), none),
    (.move (.l 18), none),
    (.faddr 12 (.r 13), (some (19, false))),
    (.load none (.l 20), (some (19, false))),
    (.bin .neq .other (.l 21) (.k (.int .i64 0)), (some (19, false))),
    (.pick (.l 19) (.k (.bool true)) (.l 22), none)] [(63, 23)] [(2, 2), (6, 6), (10, 10), (14, 14), (19, 19)])
  (.cond (.r 63) (.seq (.region [(.move (.k (.bool false)), none)] [(10, 0)] [])
   .ret)
   .skip))
  (.seq (.seq (.region [(.move (.k (.int .i64 0)), none)] [(16, 0)] [])
  (.block 0 (.loop c13B0)))
  (.seq (.region [(.faddr 5 (.r 7), none),
    (.load none (.l 0), none),
    (.un .not (.l 1), none),
    (.move (.l 2), none),
    (.move (.r 11), (some (3, false))),
    (.len .sl (.l 4), (some (3, false))),
    (.bin .eql .other (.l 5) (.k (.int .i64 0)), (some (3, false))),
    (.pick (.l 3) (.k (.bool true)) (.l 6), none),
    (.move (.l 7), none)] [(10, 8)] [(3, 3)])
  .ret))))))) }
/- canopy/canopylaw22.DispatchPrevented -/
def c14B0 : C := (.seq (.seq (.region [(.move (.r 17), none),
    (.move (.r 11), none),
    (.len .sl (.l 1), none),
    (.bin .lss .other (.l 0) (.l 2), none)] [(43, 3)] [])
  (.cond (.r 43) .skip
   (.exit 0)))
  (.seq (.block 1 (.seq (.region [(.load (some 2) (.r 5), none),
    (.move (.r 11), none),
    (.move (.r 17), none),
    (.iaddr 3 (.l 1) (.l 2), none),
    (.faddr 0 (.l 3), none),
    (.load none (.l 4), none),
    (.call 54 [(.l 0), (.l 5)], none),
    (.move (.l 6), none),
    (.extract (.l 7) 0, none),
    (.extract (.l 7) 1, none),
    (.alloc (.agg [.int .i64 0, .int .i64 0, .str [], .int .i64 0, .bool false, .bool false, .int .u8 0, .int .i64 0]), none),
    (.store 8 (.l 10) (.l 8), none),
    (.move (.l 9), none)] [(18, 10), (19, 12)] [(0, 10), (3, 10), (5, 10), (6, 10)])
  (.seq (.seq (.region [(.move (.r 19), none),
    (.un .not (.l 0), none)] [(57, 1)] [])
  (.cond (.r 57) (.seq (.region [(.move (.k (.bool false)), none)] [(10, 0)] [])
   .ret)
   .skip))
  (.region [(.move (.r 16), none),
    (.move (.l 0), none),
    (.faddr 2 (.r 7), (some (1, false))),
    (.load none (.l 2), (some (1, false))),
    (.move (.l 3), (some (1, false))),
    (.faddr 6 (.r 18), (some (4, true))),
    (.load none (.l 5), (some (4, true))),
    (.bin .neq .other (.l 6) (.k (.int .u8 1)), (some (4, true))),
    (.pick (.l 4) (.l 7) (.k (.bool false)), (some (1, false))),
    (.move (.l 8), (some (1, false))),
    (.move (.r 4), (some (9, true))),
    (.move (.r 11), (some (9, true))),
    (.move (.r 17), (some (9, true))),
    (.iaddr 3 (.l 11) (.l 12), (some (9, true))),
    (.faddr 1 (.l 13), (some (9, true))),
    (.load none (.l 14), (some (9, true))),
    (.call 55 [(.l 10), (.l 15), (.k (.int .u8 3))], (some (9, true))),
    (.pick (.l 9) (.l 16) (.k (.bool false)), (some (1, false))),
    (.pick (.l 1) (.k (.bool true)) (.l 17), none),
    (.move (.l 18), none)] [(16, 19)] [(1, 1), (4, 4), (9, 9)]))))
  (.region [(.move (.r 17), none),
    (.bin .add .other (.l 0) (.k (.int .i64 1)), none),
    (.move (.l 1), none)] [(17, 2)] [])))
def c14 : AFn := { results := [.reg 10], body := (.seq (.region [(.box (.r 0), none),
    (.box (.r 2), none),
    (.move (.k (.bool false)), none)] [(5, 0), (7, 1), (10, 2)] [])
  (.seq (.seq (.region [(.call 44 [], none),
    (.un .not (.l 0), none)] [(21, 1)] [])
  (.cond (.r 21) (.seq (.region [(.move (.k (.bool false)), none)] [(10, 0)] [])
   .ret)
   .skip))
  (.seq (.region [(.load (some 2) (.r 5), none),
    (.move (.r 1), none),
    (.load (some 13) (.r 7), none),
    (.move (.r 3), none),
    (.move (.r 4), none),
    (.call 50 [(.l 0), (.l 1), (.l 2), (.l 3), (.l 4)], none),
    (.move (.l 5), none),
    (.extract (.l 6) 0, none),
    (.extract (.l 6) 1, none),
    (.extract (.l 6) 2, none),
    (.extract (.l 6) 3, none),
    (.extract (.l 6) 4, none),
    (.alloc (.agg [.list true [], .int .i64 0]), none),
    (.alloc (.agg [.str [], .bool false, .bool false, .bool false, .bool false, .bool false, .bool false, .bool false, .bool false, .int .u8 0, .int .i64 0, .int .i64 0, .int .i64 0]), none),
    (.move (.l 7), none),
    (.store 2 (.l 12) (.l 8), none),
    (.store 13 (.l 13) (.l 9), none),
    (.move (.l 10), none),
    (.move (.l 11), none)] [(13, 13), (11, 14), (14, 17), (15, 18)] [])
  (.seq (.seq (.region [(.move (.r 15), none),
    (.bin .neq .other (.l 0) (.k (.int .i64 0)), none)] [(35, 1)] [])
  (.cond (.r 35) (.seq (.region [(.move (.r 14), none),
     (.un .not (.l 0), none),
     (.move (.l 1), none)] [(10, 2)] [])
   .ret)
   .skip))
  (.seq (.region [(.faddr 4 (.r 7), none),
    (.load none (.l 0), none),
    (.move (.l 1), none)] [(16, 2)] [])
  (.seq (.seq (.region [(.move (.k (.int .i64 0)), none)] [(17, 0)] [])
  (.block 0 (.loop c14B0)))
  (.seq (.region [(.move (.r 14), none),
    (.move (.r 16), none),
    (.un .not (.l 1), none),
    (.bin .eql .bool (.l 0) (.l 2), none),
    (.move (.l 3), none),
    (.faddr 4 (.r 13), (some (4, true))),
    (.load none (.l 5), (some (4, true))),
    (.move (.r 16), (some (4, true))),
    (.bin .eql .bool (.l 6) (.l 7), (some (4, true))),
    (.pick (.l 4) (.l 8) (.k (.bool false)), none),
    (.move (.l 9), none),
    (.move (.r 3), (some (10, true))),
    (.un .not (.l 11), (some (10, true))),
    (.move (.l 12), (some (10, true))),
    (.faddr 10 (.r 13), (some (13, false))),
    (.load none (.l 14), (some (13, false))),
    (.bin .eql .other (.l 15) (.k (.int .i64 0)), (some (13, false))),
    (.move (.l 16), (some (13, false))),
    (.faddr 11 (.r 13), (some (17, true))),
    (.load none (.l 18), (some (17, true))),
    (.bin .eql .other (.l 19) (.k (.int .i64 0)), (some (17, true))),
    (.pick (.l 17) (.l 20) (.k (.bool false)), (some (13, false))),
    (.pick (.l 13) (.k (.bool true)) (.l 21), (some (10, true))),
    (.pick (.l 10) (.l 22) (.k (.bool false)), none),
    (.move (.l 23), none)] [(10, 24)] [(4, 4), (10, 10), (13, 13), (17, 17)])
  .ret))))))) }
/- canopy/canopylaw22.DispatchOnce -/
def c15B0 : C := (.seq (.seq (.region [(.move (.r 21), none),
    (.move (.r 16), none),
    (.bin .lss .other (.l 0) (.l 1), none)] [(79, 2)] [])
  (.cond (.r 79) .skip
   (.exit 2)))
  (.seq (.block 3 (.seq (.region [(.faddr 5 (.r 17), none),
    (.load none (.l 0), none),
    (.move (.l 1), none),
    (.move (.r 11), (some (2, true))),
    (.move (.r 21), (some (2, true))),
    (.iaddr 3 (.l 3) (.l 4), (some (2, true))),
    (.faddr 0 (.l 5), (some (2, true))),
    (.load none (.l 6), (some (2, true))),
    (.move (.r 11), (some (2, true))),
    (.move (.r 16), (some (2, true))),
    (.iaddr 3 (.l 8) (.l 9), (some (2, true))),
    (.faddr 0 (.l 10), (some (2, true))),
    (.load none (.l 11), (some (2, true))),
    (.bin .eql .other (.l 7) (.l 12), (some (2, true))),
    (.pick (.l 2) (.l 13) (.k (.bool false)), none),
    (.move (.l 14), none),
    (.move (.r 4), (some (15, false))),
    (.move (.r 11), (some (15, false))),
    (.move (.r 21), (some (15, false))),
    (.iaddr 3 (.l 17) (.l 18), (some (15, false))),
    (.faddr 1 (.l 19), (some (15, false))),
    (.load none (.l 20), (some (15, false))),
    (.move (.r 11), (some (15, false))),
    (.move (.r 16), (some (15, false))),
    (.iaddr 3 (.l 22) (.l 23), (some (15, false))),
    (.faddr 0 (.l 24), (some (15, false))),
    (.load none (.l 25), (some (15, false))),
    (.call 56 [(.l 16), (.l 21), (.l 26)], (some (15, false))),
    (.pick (.l 15) (.k (.bool true)) (.l 27), none)] [(110, 28)] [(2, 2), (15, 15)])
  (.cond (.r 110) (.seq (.region [(.move (.k (.bool false)), none)] [(10, 0)] [])
   .ret)
   .skip)))
  (.region [(.move (.r 21), none),
    (.bin .add .other (.l 0) (.k (.int .i64 1)), none),
    (.move (.l 1), none)] [(21, 2)] [])))
def c15B1 : C := (.seq (.seq (.region [(.move (.r 16), none),
    (.move (.r 11), none),
    (.len .sl (.l 1), none),
    (.bin .lss .other (.l 0) (.l 2), none)] [(45, 3)] [])
  (.cond (.r 45) .skip
   (.exit 0)))
  (.seq (.block 1 (.seq (.region [(.load (some 2) (.r 5), none),
    (.move (.r 11), none),
    (.move (.r 16), none),
    (.iaddr 3 (.l 1) (.l 2), none),
    (.faddr 0 (.l 3), none),
    (.load none (.l 4), none),
    (.call 54 [(.l 0), (.l 5)], none),
    (.move (.l 6), none),
    (.extract (.l 7) 0, none),
    (.extract (.l 7) 1, none),
    (.alloc (.agg [.int .i64 0, .int .i64 0, .str [], .int .i64 0, .bool false, .bool false, .int .u8 0, .int .i64 0]), none),
    (.store 8 (.l 10) (.l 8), none),
    (.move (.l 9), none)] [(17, 10), (18, 12)] [(0, 10), (3, 10), (5, 10), (6, 10)])
  (.seq (.region [(.load (some 2) (.r 12), none),
    (.move (.r 11), none),
    (.move (.r 16), none),
    (.iaddr 3 (.l 1) (.l 2), none),
    (.faddr 0 (.l 3), none),
    (.load none (.l 4), none),
    (.call 54 [(.l 0), (.l 5)], none),
    (.move (.l 6), none),
    (.extract (.l 7) 0, none),
    (.extract (.l 7) 1, none),
    (.alloc (.agg [.int .i64 0, .int .i64 0, .str [], .int .i64 0, .bool false, .bool false, .int .u8 0, .int .i64 0]), none),
    (.store 8 (.l 10) (.l 8), none),
    (.move (.l 9), none)] [(20, 12)] [(0, 10), (3, 10), (5, 10), (6, 10)])
  (.seq (.seq (.region [(.move (.r 18), none),
    (.un .not (.l 0), none),
    (.move (.l 1), none),
    (.faddr 5 (.r 17), (some (2, false))),
    (.load none (.l 3), (some (2, false))),
    (.move (.l 4), (some (2, false))),
    (.move (.r 20), (some (5, true))),
    (.pick (.l 5) (.l 6) (.k (.bool false)), (some (2, false))),
    (.pick (.l 2) (.k (.bool true)) (.l 7), none)] [(76, 8)] [(2, 2), (5, 5)])
  (.cond (.r 76) (.seq (.region [(.move (.k (.bool false)), none)] [(10, 0)] [])
   .ret)
   .skip))
  (.seq (.region [(.move (.k (.int .i64 0)), none)] [(21, 0)] [])
  (.block 2 (.loop c15B0)))))))
  (.region [(.move (.r 16), none),
    (.bin .add .other (.l 0) (.k (.int .i64 1)), none),
    (.move (.l 1), none)] [(16, 2)] [])))
def c15 : AFn := { results := [.reg 10], body := (.seq (.region [(.box (.r 0), none),
    (.box (.r 2), none),
    (.move (.k (.bool false)), none)] [(5, 0), (7, 1), (10, 2)] [])
  (.seq (.seq (.region [(.call 44 [], none),
    (.un .not (.l 0), none)] [(23, 1)] [])
  (.cond (.r 23) (.seq (.region [(.move (.k (.bool false)), none)] [(10, 0)] [])
   .ret)
   .skip))
  (.seq (.region [(.load (some 2) (.r 5), none),
    (.move (.r 1), none),
    (.load (some 13) (.r 7), none),
    (.move (.r 3), none),
    (.move (.r 4), none),
    (.call 50 [(.l 0), (.l 1), (.l 2), (.l 3), (.l 4)], none),
    (.move (.l 5), none),
    (.extract (.l 6) 0, none),
    (.extract (.l 6) 1, none),
    (.extract (.l 6) 2, none),
    (.extract (.l 6) 3, none),
    (.extract (.l 6) 4, none),
    (.alloc (.agg [.list true [], .int .i64 0]), none),
    (.alloc (.agg [.str [], .bool false, .bool false, .bool false, .bool false, .bool false, .bool false, .bool false, .bool false, .int .u8 0, .int .i64 0, .int .i64 0, .int .i64 0]), none),
    (.move (.l 7), none),
    (.store 2 (.l 12) (.l 8), none),
    (.store 13 (.l 13) (.l 9), none),
    (.move (.l 10), none),
    (.move (.l 11), none)] [(12, 12), (11, 14), (15, 18)] [])
  (.seq (.seq (.region [(.move (.r 15), none),
    (.bin .neq .other (.l 0) (.k (.int .i64 0)), none)] [(37, 1)] [])
  (.cond (.r 37) (.seq (.region [(.faddr 0 (.r 12), none),
     (.load none (.l 0), none),
     (.len .sl (.l 1), none),
     (.bin .eql .other (.l 2) (.k (.int .i64 0)), none),
     (.move (.l 3), none)] [(10, 4)] [])
   .ret)
   .skip))
  (.seq (.seq (.region [(.move (.k (.int .i64 0)), none)] [(16, 0)] [])
  (.block 0 (.loop c15B1)))
  (.seq (.region [(.faddr 0 (.r 12), none),
    (.load none (.l 0), none),
    (.len .sl (.l 1), none),
    (.faddr 0 (.r 5), none),
    (.load none (.l 3), none),
    (.len .sl (.l 4), none),
    (.bin .leq .other (.l 2) (.l 5), none),
    (.move (.l 6), none)] [(10, 7)] [])
  .ret)))))) }
/- canopy/canopylaw22.DispatchSteps -/
def c16B0 : C := (.seq (.seq (.region [(.move (.r 12), none),
    (.faddr 0 (.r 5), none),
    (.load none (.l 1), none),
    (.len .sl (.l 2), none),
    (.bin .lss .other (.l 0) (.l 3), none)] [(33, 4)] [])
  (.cond (.r 33) .skip
   (.exit 0)))
  (.seq (.block 1 (.region [(.move (.r 11), none),
    (.faddr 0 (.r 5), none),
    (.load none (.l 1), none),
    (.move (.r 12), none),
    (.iaddr 8 (.l 2) (.l 3), none),
    (.faddr 3 (.l 4), none),
    (.load none (.l 5), none),
    (.move (.r 4), none),
    (.bslice 1 (.int .u8 0) [(0, (.l 7))], none),
    (.build [.int .i64 0, .list true [], .list true []] [(0, 1, (.l 6)), (1, 1, (.l 8))], none),
    (.bslice 1 (.agg [.int .i64 0, .list true [], .list true []]) [(0, (.l 9))], none),
    (.app 3 56 (.l 0) (.l 10), none),
    (.move (.l 11), none)] [(11, 12)] []))
  (.region [(.move (.r 12), none),
    (.bin .add .other (.l 0) (.k (.int .i64 1)), none),
    (.move (.l 1), none)] [(12, 2)] [])))
def c16B1 : C := (.block 3 (.seq (.region [(.load (some 2) (.r 5), none),
    (.load (some 17) (.r 18), none),
    (.call 46 [(.l 0), (.l 1)], none),
    (.move (.l 2), none),
    (.extract (.l 3) 0, none),
    (.extract (.l 3) 1, none),
    (.extract (.l 3) 2, none),
    (.extract (.l 3) 3, none),
    (.extract (.l 3) 4, none),
    (.alloc (.agg [.str [], .bool false, .bool false, .bool false, .bool false, .bool false, .bool false, .bool false, .bool false, .int .u8 0, .int .i64 0, .int .i64 0, .int .i64 0, .list true [], .int .i64 0, .list true [], .bool false]), none),
    (.alloc (.agg [.list true [], .int .i64 0]), none),
    (.alloc (.agg [.int .i64 0, .int .i64 0, .int .i64 0]), none),
    (.store 17 (.l 9) (.l 4), none),
    (.store 2 (.l 10) (.l 5), none),
    (.store 3 (.l 11) (.l 6), none),
    (.move (.l 7), none),
    (.move (.l 8), none)] [(20, 9), (21, 10), (22, 11), (23, 15), (24, 16)] [])
  (.seq (.seq (.region [(.move (.r 24), none),
    (.bin .neq .other (.l 0) (.k (.int .i64 0)), none)] [(81, 1)] [])
  (.cond (.r 81) (.seq (.region [(.move (.k (.bool false)), none)] [(10, 0)] [])
   .ret)
   .skip))
  (.seq (.region [(.load (some 2) (.r 21), none),
    (.store 2 (.r 5) (.l 0), none)] [] [])
  (.seq (.region [(.load (some 17) (.r 20), none),
    (.store 17 (.r 18) (.l 0), none)] [] [])
  (.seq (.seq (.region [(.move (.r 23), none),
    (.un .not (.l 0), none)] [(85, 1)] [])
  (.cond (.r 85) (.exit 2)
   .skip))
  (.seq (.seq (.region [(.move (.r 19), none),
    (.move (.r 13), none),
    (.len .sl (.l 1), none),
    (.bin .geq .other (.l 0) (.l 2), none),
    (.move (.l 3), none),
    (.move (.r 13), (some (4, false))),
    (.move (.r 19), (some (4, false))),
    (.iaddr 3 (.l 5) (.l 6), (some (4, false))),
    (.load (some 3) (.l 7), (some (4, false))),
    (.load (some 3) (.r 22), (some (4, false))),
    (.bin .neq (.agg [.int, .int, .int]) (.l 8) (.l 9), (some (4, false))),
    (.pick (.l 4) (.k (.bool true)) (.l 10), none)] [(97, 11)] [(4, 4)])
  (.cond (.r 97) (.seq (.region [(.move (.k (.bool false)), none)] [(10, 0)] [])
   .ret)
   .skip))
  (.seq (.region [(.move (.r 19), none),
    (.bin .add .other (.l 0) (.k (.int .i64 1)), none),
    (.move (.l 1), none)] [(19, 2)] [])
  (.seq (.region [(.load (some 17) (.r 18), none),
    (.move (.r 4), none),
    (.call 48 [(.l 0), (.l 1)], none),
    (.move (.l 2), none),
    (.extract (.l 3) 0, none),
    (.extract (.l 3) 1, none),
    (.store 17 (.r 18) (.l 4), none),
    (.move (.l 5), none)] [(24, 7)] [])
  (.seq (.region [(.move (.r 24), none),
    (.bin .neq .other (.l 0) (.k (.int .i64 0)), none)] [(107, 1)] [])
  (.cond (.r 107) (.seq (.region [(.move (.k (.bool false)), none)] [(10, 0)] [])
   .ret)
   .skip)))))))))))
def c16 : AFn := { results := [.reg 10], body := (.seq (.region [(.box (.r 0), none),
    (.box (.r 2), none),
    (.move (.k (.bool false)), none)] [(5, 0), (7, 1), (10, 2)] [])
  (.seq (.seq (.region [(.call 44 [], none),
    (.un .not (.l 0), none)] [(28, 1)] [])
  (.cond (.r 28) (.seq (.region [(.move (.k (.bool false)), none)] [(10, 0)] [])
   .ret)
   .skip))
  (.seq (.region [(.move (.k (.list true [])), none)] [(11, 0)] [])
  (.seq (.seq (.region [(.move (.k (.int .i64 0)), none)] [(12, 0)] [])
  (.block 0 (.loop c16B0)))
  (.seq (.region [(.load (some 2) (.r 5), none),
    (.move (.r 1), none),
    (.load (some 13) (.r 7), none),
    (.move (.r 3), none),
    (.move (.r 11), none),
    (.call 50 [(.l 0), (.l 1), (.l 2), (.l 3), (.l 4)], none),
    (.move (.l 5), none),
    (.extract (.l 6) 0, none),
    (.extract (.l 6) 1, none),
    (.extract (.l 6) 2, none),
    (.extract (.l 6) 3, none),
    (.extract (.l 6) 4, none),
    (.alloc (.agg [.list true [], .int .i64 0]), none),
    (.alloc (.agg [.str [], .bool false, .bool false, .bool false, .bool false, .bool false, .bool false, .bool false, .bool false, .int .u8 0, .int .i64 0, .int .i64 0, .int .i64 0]), none),
    (.move (.l 7), none),
    (.store 2 (.l 12) (.l 8), none),
    (.store 13 (.l 13) (.l 9), none),
    (.move (.l 10), none),
    (.move (.l 11), none)] [(14, 12), (15, 13), (13, 14), (16, 17), (17, 18)] [])
  (.seq (.seq (.region [(.move (.r 17), none),
    (.bin .neq .other (.l 0) (.k (.int .i64 0)), none)] [(61, 1)] [])
  (.cond (.r 61) (.seq (.region [(.move (.k (.bool true)), none)] [(10, 0)] [])
   .ret)
   .skip))
  (.seq (.region [(.move (.r 1), none),
    (.load (some 13) (.r 7), none),
    (.move (.r 3), none),
    (.call 36 [(.l 0), (.l 1), (.l 2)], none),
    (.move (.l 3), none),
    (.extract (.l 4) 0, none),
    (.extract (.l 4) 1, none),
    (.alloc (.agg [.str [], .bool false, .bool false, .bool false, .bool false, .bool false, .bool false, .bool false, .bool false, .int .u8 0, .int .i64 0, .int .i64 0, .int .i64 0, .list true [], .int .i64 0, .list true [], .bool false]), none),
    (.store 17 (.l 7) (.l 5), none),
    (.move (.l 6), none)] [(18, 7), (17, 9)] [])
  (.seq (.seq (.region [(.move (.r 17), none),
    (.bin .neq .other (.l 0) (.k (.int .i64 0)), none)] [(70, 1)] [])
  (.cond (.r 70) (.seq (.region [(.move (.k (.bool false)), none)] [(10, 0)] [])
   .ret)
   .skip))
  (.seq (.region [(.move (.k (.int .i64 0)), none)] [(19, 0)] [])
  (.seq (.block 2 (.loop c16B1))
  (.seq (.region [(.load (some 17) (.r 18), none),
    (.call 38 [(.l 0)], none),
    (.move (.l 1), none),
    (.extract (.l 2) 0, none),
    (.extract (.l 2) 1, none),
    (.extract (.l 2) 2, none),
    (.alloc (.agg [.str [], .bool false, .bool false, .bool false, .bool false, .bool false, .bool false, .bool false, .bool false, .int .u8 0, .int .i64 0, .int .i64 0, .int .i64 0]), none),
    (.store 13 (.l 6) (.l 3), none),
    (.move (.l 4), none),
    (.move (.l 5), none)] [(25, 6), (26, 8), (17, 9)] [])
  (.seq (.region [(.move (.r 17), none),
    (.bin .eql .other (.l 0) (.k (.int .i64 0)), none),
    (.move (.l 1), none),
    (.move (.r 19), (some (2, true))),
    (.move (.r 13), (some (2, true))),
    (.len .sl (.l 4), (some (2, true))),
    (.bin .eql .other (.l 3) (.l 5), (some (2, true))),
    (.pick (.l 2) (.l 6) (.k (.bool false)), none),
    (.move (.l 7), none),
    (.load (some 2) (.r 5), (some (8, true))),
    (.load (some 2) (.r 14), (some (8, true))),
    (.call 20 [(.l 9), (.l 10)], (some (8, true))),
    (.pick (.l 8) (.l 11) (.k (.bool false)), none),
    (.move (.l 12), none),
    (.load (some 13) (.r 25), (some (13, true))),
    (.load (some 13) (.r 15), (some (13, true))),
    (.bin .eql (.agg [.str, .bool, .bool, .bool, .bool, .bool, .bool, .bool, .bool, .int, .int, .int, .int]) (.l 14) (.l 15), (some (13, true))),
    (.pick (.l 13) (.l 16) (.k (.bool false)), none),
    (.move (.l 17), none),
    (.move (.r 26), (some (18, true))),
    (.move (.r 16), (some (18, true))),
    (.bin .eql .bool (.l 19) (.l 20), (some (18, true))),
    (.pick (.l 18) (.l 21) (.k (.bool false)), none),
    (.move (.l 22), none),
    (.load (some 17) (.r 18), (some (23, true))),
    (.call 41 [(.l 24)], (some (23, true))),
    (.pick (.l 23) (.l 25) (.k (.bool false)), none),
    (.move (.l 26), none),
    (.load (some 17) (.r 18), (some (27, true))),
    (.call 57 [(.l 28)], (some (27, true))),
    (.pick (.l 27) (.l 29) (.k (.bool false)), none),
    (.move (.l 30), none)] [(10, 31)] [(2, 2), (8, 8), (13, 13), (18, 18), (23, 23), (27, 27)])
  .ret)))))))))))) }
/- canopy/canopyref21.Same -/
def c20B0 : C := (.seq (.region [(.bin .lss .other (.r 38) (.r 37), none)] [(39, 0)] [])
  (.seq (.cond (.r 39) .skip
   (.exit 0))
  (.seq (.block 1 (.seq (.region [(.move (.r 38), none),
    (.move (.l 0), none)] [(5, 1)] [])
  (.seq (.region [(.faddr 0 (.r 2), none),
    (.load none (.l 0), none),
    (.move (.r 5), none),
    (.iaddr 8 (.l 1) (.l 2), none),
    (.load (some 8) (.l 3), none),
    (.faddr 0 (.r 3), none),
    (.load none (.l 5), none),
    (.move (.r 5), none),
    (.iaddr 8 (.l 6) (.l 7), none),
    (.load (some 8) (.l 8), none),
    (.bin .neq (.agg [.int, .int, .str, .int, .bool, .bool, .int, .int]) (.l 4) (.l 9), none)] [(51, 10)] [])
  (.cond (.r 51) (.seq (.region [(.move (.k (.bool false)), none)] [(4, 0)] [])
   .ret)
   .skip))))
  (.region [(.bin .add .other (.r 38) (.k (.int .i64 1)), none),
    (.move (.l 0), none)] [(38, 1)] []))))
def c20 : AFn := { results := [.reg 4], body := (.seq (.region [(.box (.r 0), none),
    (.box (.r 1), none),
    (.move (.k (.bool false)), none)] [(2, 0), (3, 1), (4, 2)] [])
  (.seq (.seq (.region [(.faddr 0 (.r 2), none),
    (.load none (.l 0), none),
    (.len .sl (.l 1), none),
    (.faddr 0 (.r 3), none),
    (.load none (.l 3), none),
    (.len .sl (.l 4), none),
    (.bin .neq .other (.l 2) (.l 5), none),
    (.move (.l 6), none),
    (.faddr 1 (.r 2), (some (7, false))),
    (.load none (.l 8), (some (7, false))),
    (.faddr 1 (.r 3), (some (7, false))),
    (.load none (.l 10), (some (7, false))),
    (.bin .neq .other (.l 9) (.l 11), (some (7, false))),
    (.move (.l 12), (some (7, false))),
    (.faddr 0 (.r 2), (some (13, true))),
    (.load none (.l 14), (some (13, true))),
    (.len .sl (.l 15), (some (13, true))),
    (.bin .gtr .other (.l 16) (.k (.int .i64 0)), (some (13, true))),
    (.move (.l 17), (some (13, true))),
    (.faddr 1 (.r 2), (some (18, false))),
    (.load none (.l 19), (some (18, false))),
    (.mx [(.l 20), (.k (.int .i64 1))], (some (18, false))),
    (.faddr 1 (.r 3), (some (18, false))),
    (.load none (.l 22), (some (18, false))),
    (.mx [(.l 23), (.k (.int .i64 1))], (some (18, false))),
    (.bin .neq .other (.l 21) (.l 24), (some (18, false))),
    (.pick (.l 18) (.k (.bool true)) (.l 25), (some (13, true))),
    (.pick (.l 13) (.l 26) (.k (.bool false)), (some (7, false))),
    (.pick (.l 7) (.k (.bool true)) (.l 27), none)] [(34, 28)] [(7, 7), (13, 13), (18, 18)])
  (.cond (.r 34) (.seq (.region [(.move (.k (.bool false)), none)] [(4, 0)] [])
   .ret)
   .skip))
  (.seq (.seq (.region [(.faddr 0 (.r 2), none),
    (.load none (.l 0), none),
    (.len .sl (.l 1), none),
    (.move (.k (.int .i64 0)), none)] [(37, 2), (38, 3)] [])
  (.block 0 (.loop c20B0)))
  (.seq (.region [(.move (.k (.bool true)), none)] [(4, 0)] [])
  .ret)))) }
/- canopy/listen.Check -/
def c21B0 : C := (.seq (.region [(.bin .lss .other (.r 27) (.r 26), none)] [(28, 0)] [])
  (.seq (.cond (.r 28) .skip
   (.exit 0))
  (.seq (.block 1 (.seq (.region [(.iaddr 8 (.r 25) (.r 27), none),
    (.load (some 8) (.l 0), none),
    (.alloc (.agg [.int .i64 0, .int .i64 0, .str [], .int .i64 0, .bool false, .bool false, .int .u8 0, .int .i64 0]), none),
    (.store 8 (.l 2) (.l 1), none)] [(7, 2)] [])
  (.seq (.region [(.load (some 8) (.r 7), none),
    (.call 59 [(.l 0)], none),
    (.alloc (.agg [.int .i64 0, .str [], .int .i64 0, .bool false]), none),
    (.store 4 (.l 2) (.l 1), none)] [(8, 2)] [])
  (.seq (.seq (.region [(.load (some 8) (.r 7), none),
    (.move (.r 5), none),
    (.move (.r 3), none),
    (.call 66 [(.l 0), (.l 1), (.l 2)], none),
    (.un .not (.l 3), none),
    (.move (.l 4), none),
    (.move (.r 4), (some (5, false))),
    (.load (some 4) (.r 8), (some (5, false))),
    (.lookup [.int, .str, .int, .bool] (.int .i64 0) (.l 6) (.l 7) false, (some (5, false))),
    (.bin .gtr .other (.l 8) (.k (.int .i64 0)), (some (5, false))),
    (.pick (.l 5) (.k (.bool true)) (.l 9), none)] [(43, 10)] [(5, 5)])
  (.cond (.r 43) (.seq (.region [(.move (.k (.int .i64 2)), none)] [(2, 0)] [])
   .ret)
   .skip))
  (.seq (.region [(.faddr 0 (.r 7), none),
    (.load none (.l 0), none),
    (.move (.l 1), none)] [(5, 2)] [])
  (.region [(.move (.r 4), none),
    (.load (some 4) (.r 8), none),
    (.lookup [.int, .str, .int, .bool] (.int .i64 0) (.l 0) (.l 1) false, none),
    (.bin .add .other (.l 2) (.k (.int .i64 1)), none),
    (.mentry [.int, .str, .int, .bool] (.int .i64 0) (.l 0) (.l 1), none),
    (.extract (.l 4) 1, none),
    (.estore (.l 0) (.l 5) (.l 3), none)] [] []))))))
  (.region [(.bin .add .other (.r 27) (.k (.int .i64 1)), none),
    (.move (.l 0), none)] [(27, 1)] []))))
def c21 : AFn := { results := [.reg 2], body := (.seq (.region [(.box (.r 0), none),
    (.move (.k (.int .i64 0)), none)] [(1, 0), (2, 1)] [])
  (.seq (.region [(.load (some 2) (.r 1), none),
    (.call 65 [(.l 0)], none),
    (.move (.l 1), none)] [(3, 2)] [])
  (.seq (.seq (.region [(.faddr 0 (.r 1), none),
    (.load none (.l 0), none),
    (.len .sl (.l 1), none),
    (.bin .gtr .other (.l 2) (.k (.int .i64 1024)), none),
    (.move (.l 3), none),
    (.move (.r 3), (some (4, false))),
    (.bin .lss .other (.l 5) (.k (.int .i64 1)), (some (4, false))),
    (.pick (.l 4) (.k (.bool true)) (.l 6), none),
    (.move (.l 7), none),
    (.move (.r 3), (some (8, false))),
    (.bin .gtr .other (.l 9) (.k (.int .i64 1099511627776)), (some (8, false))),
    (.pick (.l 8) (.k (.bool true)) (.l 10), none)] [(22, 11)] [(4, 4), (8, 8)])
  (.cond (.r 22) (.seq (.region [(.move (.k (.int .i64 2)), none)] [(2, 0)] [])
   .ret)
   .skip))
  (.seq (.region [(.mkMap, none),
    (.move (.l 0), none)] [(4, 1)] [])
  (.seq (.region [(.move (.k (.int .i64 0)), none)] [(5, 0)] [])
  (.seq (.seq (.region [(.faddr 0 (.r 1), none),
    (.load none (.l 0), none),
    (.len .sl (.l 1), none),
    (.move (.k (.int .i64 0)), none)] [(25, 1), (26, 2), (27, 3)] [])
  (.block 0 (.loop c21B0)))
  (.seq (.region [(.move (.k (.int .i64 0)), none)] [(2, 0)] [])
  .ret))))))) }
/- canopy/canopyref21.Check -/
def c22B0 : C := (.seq (.region [(.bin .lss .other (.r 32) (.r 31), none)] [(33, 0)] [])
  (.seq (.cond (.r 33) .skip
   (.exit 0))
  (.seq (.block 1 (.seq (.region [(.move (.r 32), none),
    (.iaddr 8 (.r 30) (.r 32), none),
    (.load (some 8) (.l 1), none),
    (.alloc (.agg [.int .i64 0, .int .i64 0, .str [], .int .i64 0, .bool false, .bool false, .int .u8 0, .int .i64 0]), none),
    (.move (.l 0), none),
    (.store 8 (.l 3) (.l 2), none)] [(5, 3), (4, 4)] [])
  (.seq (.seq (.region [(.faddr 0 (.r 5), none),
    (.load none (.l 0), none),
    (.move (.r 3), none),
    (.bin .leq .other (.l 1) (.l 2), none),
    (.move (.l 3), none),
    (.faddr 0 (.r 5), (some (4, false))),
    (.load none (.l 5), (some (4, false))),
    (.faddr 1 (.r 1), (some (4, false))),
    (.load none (.l 7), (some (4, false))),
    (.bin .geq .other (.l 6) (.l 8), (some (4, false))),
    (.pick (.l 4) (.k (.bool true)) (.l 9), none),
    (.move (.l 10), none),
    (.faddr 0 (.r 1), (some (11, false))),
    (.load none (.l 12), (some (11, false))),
    (.move (.r 4), (some (11, false))),
    (.slice 8 (.l 13) none (some (.l 14)) none, (some (11, false))),
    (.load (some 8) (.r 5), (some (11, false))),
    (.call 64 [(.l 15), (.l 16)], (some (11, false))),
    (.bin .geq .other (.l 17) (.k (.int .i64 0)), (some (11, false))),
    (.pick (.l 11) (.k (.bool true)) (.l 18), none),
    (.move (.l 19), none),
    (.faddr 3 (.r 5), (some (20, false))),
    (.load none (.l 21), (some (20, false))),
    (.bin .eql .other (.l 22) (.k (.int .i64 0)), (some (20, false))),
    (.pick (.l 20) (.k (.bool true)) (.l 23), none),
    (.move (.l 24), none),
    (.faddr 1 (.r 5), (some (25, false))),
    (.load none (.l 26), (some (25, false))),
    (.bin .lss .other (.l 27) (.k (.int .i64 1)), (some (25, false))),
    (.pick (.l 25) (.k (.bool true)) (.l 28), none),
    (.move (.l 29), none),
    (.faddr 2 (.r 5), (some (30, false))),
    (.load none (.l 31), (some (30, false))),
    (.len .str (.l 32), (some (30, false))),
    (.bin .gtr .other (.l 33) (.k (.int .i64 1024)), (some (30, false))),
    (.pick (.l 30) (.k (.bool true)) (.l 34), none),
    (.move (.l 35), none),
    (.faddr 6 (.r 5), (some (36, false))),
    (.load none (.l 37), (some (36, false))),
    (.bin .neq .other (.l 38) (.k (.int .u8 1)), (some (36, false))),
    (.move (.l 39), (some (36, false))),
    (.faddr 6 (.r 5), (some (40, true))),
    (.load none (.l 41), (some (40, true))),
    (.bin .neq .other (.l 42) (.k (.int .u8 2)), (some (40, true))),
    (.pick (.l 40) (.l 43) (.k (.bool false)), (some (36, false))),
    (.pick (.l 36) (.k (.bool true)) (.l 44), none)] [(82, 45)] [(4, 4), (11, 11), (20, 20), (25, 25), (30, 30), (36, 36), (40, 40)])
  (.cond (.r 82) (.seq (.region [(.move (.k (.int .i64 2)), none)] [(2, 0)] [])
   .ret)
   .skip))
  (.region [(.faddr 0 (.r 5), none),
    (.load none (.l 0), none),
    (.move (.l 1), none)] [(3, 2)] []))))
  (.region [(.bin .add .other (.r 32) (.k (.int .i64 1)), none),
    (.move (.l 0), none)] [(32, 1)] []))))
def c22 : AFn := { results := [.reg 2], body := (.seq (.region [(.box (.r 0), none),
    (.move (.k (.int .i64 0)), none)] [(1, 0), (2, 1)] [])
  (.seq (.seq (.region [(.faddr 0 (.r 1), none),
    (.load none (.l 0), none),
    (.len .sl (.l 1), none),
    (.bin .eql .other (.l 2) (.k (.int .i64 0)), none),
    (.move (.l 3), none),
    (.faddr 1 (.r 1), (some (4, true))),
    (.load none (.l 5), (some (4, true))),
    (.bin .eql .other (.l 6) (.k (.int .i64 0)), (some (4, true))),
    (.pick (.l 4) (.l 7) (.k (.bool false)), none)] [(14, 8)] [(4, 4)])
  (.cond (.r 14) (.seq (.region [(.move (.k (.int .i64 0)), none)] [(2, 0)] [])
   .ret)
   .skip))
  (.seq (.seq (.region [(.faddr 0 (.r 1), none),
    (.load none (.l 0), none),
    (.len .sl (.l 1), none),
    (.bin .gtr .other (.l 2) (.k (.int .i64 1024)), none),
    (.move (.l 3), none),
    (.faddr 1 (.r 1), (some (4, false))),
    (.load none (.l 5), (some (4, false))),
    (.bin .lss .other (.l 6) (.k (.int .i64 1)), (some (4, false))),
    (.pick (.l 4) (.k (.bool true)) (.l 7), none),
    (.move (.l 8), none),
    (.faddr 1 (.r 1), (some (9, false))),
    (.load none (.l 10), (some (9, false))),
    (.bin .gtr .other (.l 11) (.k (.int .i64 1099511627776)), (some (9, false))),
    (.pick (.l 9) (.k (.bool true)) (.l 12), none)] [(28, 13)] [(4, 4), (9, 9)])
  (.cond (.r 28) (.seq (.region [(.move (.k (.int .i64 2)), none)] [(2, 0)] [])
   .ret)
   .skip))
  (.seq (.region [(.move (.k (.int .i64 0)), none)] [(3, 0)] [])
  (.seq (.seq (.region [(.faddr 0 (.r 1), none),
    (.load none (.l 0), none),
    (.len .sl (.l 1), none),
    (.move (.k (.int .i64 0)), none)] [(30, 1), (31, 2), (32, 3)] [])
  (.block 0 (.loop c22B0)))
  (.seq (.region [(.move (.k (.int .i64 0)), none)] [(2, 0)] [])
  .ret)))))) }
/- canopy/listen.Due -/
def c25B0 : C := (.seq (.region [(.bin .lss .other (.r 34) (.r 33), none)] [(35, 0)] [])
  (.seq (.cond (.r 35) .skip
   (.exit 1))
  (.seq (.block 2 (.seq (.region [(.iaddr 8 (.r 32) (.r 34), none),
    (.load (some 8) (.l 0), none),
    (.alloc (.agg [.int .i64 0, .int .i64 0, .str [], .int .i64 0, .bool false, .bool false, .int .u8 0, .int .i64 0]), none),
    (.store 8 (.l 2) (.l 1), none)] [(15, 2)] [])
  (.seq (.region [(.faddr 1 (.r 15), none),
    (.load none (.l 0), none),
    (.move (.r 1), none),
    (.bin .eql .other (.l 1) (.l 2), none),
    (.move (.l 3), none),
    (.faddr 2 (.r 15), (some (4, true))),
    (.load none (.l 5), (some (4, true))),
    (.move (.r 2), (some (4, true))),
    (.bin .eql .other (.l 6) (.l 7), (some (4, true))),
    (.pick (.l 4) (.l 8) (.k (.bool false)), none),
    (.move (.l 9), none),
    (.faddr 4 (.r 15), (some (10, true))),
    (.load none (.l 11), (some (10, true))),
    (.move (.r 4), (some (10, true))),
    (.bin .eql .bool (.l 12) (.l 13), (some (10, true))),
    (.pick (.l 10) (.l 14) (.k (.bool false)), none)] [(53, 15)] [(4, 4), (10, 10)])
  (.cond (.r 53) (.region [(.move (.r 13), none),
     (.faddr 0 (.r 15), none),
     (.load none (.l 1), none),
     (.bslice 1 (.int .i64 0) [(0, (.l 2))], none),
     (.app 1 8 (.l 0) (.l 3), none),
     (.move (.l 4), none)] [(13, 5)] [])
   .skip))))
  (.region [(.bin .add .other (.r 34) (.k (.int .i64 1)), none),
    (.move (.l 0), none)] [(34, 1)] []))))
def c25 : AFn := { results := [.reg 10, .reg 11], body := (.seq (.region [(.box (.r 0), none),
    (.move (.k (.list true [])), none),
    (.move (.k (.int .i64 0)), none)] [(5, 0), (10, 1), (11, 2)] [])
  (.seq (.region [(.load (some 2) (.r 5), none),
    (.call 21 [(.l 0)], none),
    (.move (.l 1), none)] [(12, 2)] [])
  (.seq (.block 0 (.seq (.region [(.move (.r 12), none),
    (.bin .neq .other (.l 0) (.k (.int .i64 0)), none),
    (.move (.l 1), none)] [(18, 2)] [])
  (.cond (.r 18) (.seq (.region [(.move (.r 12), none),
     (.move (.k (.list true [])), none),
     (.move (.l 0), none)] [(10, 1), (11, 2)] [])
   .ret)
   (.seq (.region [(.move (.r 3), none),
     (.bin .eql .other (.l 0) (.k (.int .u8 1)), none),
     (.move (.l 1), none)] [(22, 2)] [])
   (.cond (.r 22) (.region [(.move (.k (.bool true)), none)] [(4, 0)] [])
    (.seq (.region [(.move (.r 3), none),
      (.bin .eql .other (.l 0) (.k (.int .u8 3)), none),
      (.move (.l 1), none)] [(25, 2)] [])
    (.cond (.r 25) (.region [(.move (.k (.bool false)), none)] [(4, 0)] [])
     (.seq (.region [(.move (.r 3), none),
       (.bin .neq .other (.l 0) (.k (.int .u8 2)), none),
       (.move (.l 1), none)] [(28, 2)] [])
     (.cond (.r 28) (.seq (.region [(.move (.k (.list true [])), none),
        (.move (.k (.int .i64 23)), none)] [(10, 0), (11, 1)] [])
      .ret)
      .skip)))))))))
  (.seq (.region [(.move (.k (.list true [])), none)] [(13, 0)] [])
  (.seq (.seq (.region [(.faddr 0 (.r 5), none),
    (.load none (.l 0), none),
    (.len .sl (.l 1), none),
    (.move (.k (.int .i64 0)), none)] [(32, 1), (33, 2), (34, 3)] [])
  (.block 1 (.loop c25B0)))
  (.seq (.region [(.move (.r 13), none),
    (.move (.l 0), none),
    (.move (.k (.int .i64 0)), none)] [(10, 1), (11, 2)] [])
  .ret)))))) }
/- canopy/canopyref21.Due -/
def c26B0 : C := (.seq (.region [(.bin .lss .other (.r 34) (.r 33), none)] [(35, 0)] [])
  (.seq (.cond (.r 35) .skip
   (.exit 1))
  (.seq (.block 2 (.seq (.region [(.iaddr 8 (.r 32) (.r 34), none),
    (.load (some 8) (.l 0), none),
    (.alloc (.agg [.int .i64 0, .int .i64 0, .str [], .int .i64 0, .bool false, .bool false, .int .u8 0, .int .i64 0]), none),
    (.store 8 (.l 2) (.l 1), none)] [(14, 2)] [])
  (.seq (.region [(.faddr 1 (.r 14), none),
    (.load none (.l 0), none),
    (.move (.r 1), none),
    (.bin .eql .other (.l 1) (.l 2), none),
    (.move (.l 3), none),
    (.faddr 2 (.r 14), (some (4, true))),
    (.load none (.l 5), (some (4, true))),
    (.move (.r 2), (some (4, true))),
    (.bin .eql .other (.l 6) (.l 7), (some (4, true))),
    (.pick (.l 4) (.l 8) (.k (.bool false)), none),
    (.move (.l 9), none),
    (.faddr 4 (.r 14), (some (10, true))),
    (.load none (.l 11), (some (10, true))),
    (.move (.r 4), (some (10, true))),
    (.bin .eql .bool (.l 12) (.l 13), (some (10, true))),
    (.pick (.l 10) (.l 14) (.k (.bool false)), none)] [(53, 15)] [(4, 4), (10, 10)])
  (.cond (.r 53) (.region [(.move (.r 12), none),
     (.faddr 0 (.r 14), none),
     (.load none (.l 1), none),
     (.bslice 1 (.int .i64 0) [(0, (.l 2))], none),
     (.app 1 8 (.l 0) (.l 3), none),
     (.move (.l 4), none)] [(12, 5)] [])
   .skip))))
  (.region [(.bin .add .other (.r 34) (.k (.int .i64 1)), none),
    (.move (.l 0), none)] [(34, 1)] []))))
def c26 : AFn := { results := [.reg 10, .reg 11], body := (.seq (.region [(.box (.r 0), none),
    (.move (.k (.list true [])), none),
    (.move (.k (.int .i64 0)), none)] [(5, 0), (10, 1), (11, 2)] [])
  (.seq (.block 0 (.seq (.region [(.load (some 2) (.r 5), none),
    (.call 22 [(.l 0)], none),
    (.bin .neq .other (.l 1) (.k (.int .i64 0)), none),
    (.move (.l 2), none)] [(15, 3)] [])
  (.cond (.r 15) (.seq (.region [(.move (.k (.list true [])), none),
     (.move (.k (.int .i64 2)), none)] [(10, 0), (11, 1)] [])
   .ret)
   (.seq (.region [(.move (.r 3), none),
     (.bin .lss .other (.l 0) (.k (.int .u8 1)), none),
     (.move (.l 1), none),
     (.move (.r 3), (some (2, false))),
     (.bin .gtr .other (.l 3) (.k (.int .u8 3)), (some (2, false))),
     (.pick (.l 2) (.k (.bool true)) (.l 4), none),
     (.move (.l 5), none)] [(19, 6)] [(2, 2)])
   (.cond (.r 19) (.seq (.region [(.move (.k (.list true [])), none),
      (.move (.k (.int .i64 23)), none)] [(10, 0), (11, 1)] [])
    .ret)
    (.seq (.region [(.move (.r 3), none),
      (.bin .neq .other (.l 0) (.k (.int .u8 2)), none),
      (.move (.l 1), none)] [(26, 2)] [])
    (.cond (.r 26) (.region [(.move (.r 3), none),
       (.bin .eql .other (.l 0) (.k (.int .u8 1)), none),
       (.move (.l 1), none)] [(4, 2)] [])
     .skip)))))))
  (.seq (.region [(.move (.k (.list true [])), none)] [(12, 0)] [])
  (.seq (.seq (.region [(.faddr 0 (.r 5), none),
    (.load none (.l 0), none),
    (.len .sl (.l 1), none),
    (.move (.k (.int .i64 0)), none)] [(32, 1), (33, 2), (34, 3)] [])
  (.block 1 (.loop c26B0)))
  (.seq (.region [(.move (.r 12), none),
    (.move (.l 0), none),
    (.move (.k (.int .i64 0)), none)] [(10, 1), (11, 2)] [])
  .ret))))) }
/- canopy/listen.Expire -/
def c34 : AFn := { results := [.cell 4 (some 2), .reg 5, .reg 6], body := (.seq (.region [(.box (.r 0), none),
    (.box (.r 1), none),
    (.alloc (.agg [.list true [], .int .i64 0]), none),
    (.move (.k (.bool false)), none),
    (.move (.k (.int .i64 0)), none)] [(2, 0), (3, 1), (4, 2), (5, 3), (6, 4)] [])
  (.seq (.seq (.region [(.load (some 2) (.r 2), none),
    (.call 21 [(.l 0)], none),
    (.move (.l 1), none)] [(7, 2)] [])
  (.seq (.region [(.move (.r 7), none),
    (.bin .neq .other (.l 0) (.k (.int .i64 0)), none)] [(12, 1)] [])
  (.cond (.r 12) (.seq (.region [(.build [.list true [], .int .i64 0] [], none),
     (.move (.r 7), none),
     (.store 2 (.r 4) (.l 0), none),
     (.move (.k (.bool false)), none),
     (.move (.l 1), none)] [(5, 3), (6, 4)] [])
   .ret)
   .skip)))
  (.seq (.region [(.load (some 2) (.r 2), none),
    (.mkFunc 71 [] [(.r 3)], none),
    (.call 60 [(.l 0), (.l 1)], none),
    (.alloc (.agg [.list true [], .int .i64 0]), none),
    (.store 2 (.l 3) (.l 2), none)] [(8, 3)] [])
  (.seq (.region [(.load (some 2) (.r 8), none),
    (.faddr 0 (.r 8), none),
    (.load none (.l 1), none),
    (.len .sl (.l 2), none),
    (.faddr 0 (.r 2), none),
    (.load none (.l 4), none),
    (.len .sl (.l 5), none),
    (.bin .lss .other (.l 3) (.l 6), none),
    (.store 2 (.r 4) (.l 0), none),
    (.move (.l 7), none),
    (.move (.k (.int .i64 0)), none)] [(5, 9), (6, 10)] [(2, 8), (5, 8)])
  .ret)))) }
/- canopy/canopyref21.Expire -/
def c35 : AFn := { results := [.cell 4 (some 2), .reg 5, .reg 6], body := (.seq (.region [(.box (.r 0), none),
    (.alloc (.agg [.list true [], .int .i64 0]), none),
    (.move (.k (.bool false)), none),
    (.move (.k (.int .i64 0)), none)] [(2, 0), (4, 1), (5, 2), (6, 3)] [])
  (.seq (.seq (.region [(.load (some 2) (.r 2), none),
    (.call 22 [(.l 0)], none),
    (.bin .neq .other (.l 1) (.k (.int .i64 0)), none)] [(10, 2)] [])
  (.cond (.r 10) (.seq (.region [(.build [.list true [], .int .i64 0] [], none),
     (.store 2 (.r 4) (.l 0), none),
     (.move (.k (.bool false)), none),
     (.move (.k (.int .i64 2)), none)] [(5, 2), (6, 3)] [])
   .ret)
   .skip))
  (.seq (.region [(.load (some 2) (.r 2), none),
    (.move (.r 1), none),
    (.call 70 [(.l 0), (.l 1)], none),
    (.alloc (.agg [.list true [], .int .i64 0]), none),
    (.store 2 (.l 3) (.l 2), none)] [(7, 3)] [])
  (.seq (.region [(.load (some 2) (.r 7), none),
    (.faddr 0 (.r 7), none),
    (.load none (.l 1), none),
    (.len .sl (.l 2), none),
    (.faddr 0 (.r 2), none),
    (.load none (.l 4), none),
    (.len .sl (.l 5), none),
    (.bin .lss .other (.l 3) (.l 6), none),
    (.store 2 (.r 4) (.l 0), none),
    (.move (.l 7), none),
    (.move (.k (.int .i64 0)), none)] [(5, 9), (6, 10)] [(2, 8), (5, 8)])
  .ret)))) }
/- canopy/dispatch.Begin -/
def c36 : AFn := { results := [.cell 6 (some 17), .reg 7], body := (.seq (.region [(.box (.r 1), none),
    (.alloc (.agg [.str [], .bool false, .bool false, .bool false, .bool false, .bool false, .bool false, .bool false, .bool false, .int .u8 0, .int .i64 0, .int .i64 0, .int .i64 0, .list true [], .int .i64 0, .list true [], .bool false]), none),
    (.move (.k (.int .i64 0)), none)] [(4, 0), (6, 1), (7, 2)] [])
  (.seq (.block 0 (.seq (.region [(.move (.r 0), none),
    (.len .sl (.l 0), none),
    (.bin .gtr .other (.l 1) (.k (.int .i64 4096)), none),
    (.move (.l 2), none)] [(8, 3)] [])
  (.cond (.r 8) (.seq (.region [(.build [.str [], .bool false, .bool false, .bool false, .bool false, .bool false, .bool false, .bool false, .bool false, .int .u8 0, .int .i64 0, .int .i64 0, .int .i64 0, .list true [], .int .i64 0, .list true [], .bool false] [], none),
     (.store 17 (.r 6) (.l 0), none),
     (.move (.k (.int .i64 3)), none)] [(7, 2)] [])
   .ret)
   (.seq (.region [(.faddr 0 (.r 4), none),
     (.load none (.l 0), none),
     (.len .str (.l 1), none),
     (.bin .gtr .other (.l 2) (.k (.int .i64 1024)), none),
     (.move (.l 3), none)] [(13, 4)] [])
   (.cond (.r 13) (.seq (.region [(.build [.str [], .bool false, .bool false, .bool false, .bool false, .bool false, .bool false, .bool false, .bool false, .int .u8 0, .int .i64 0, .int .i64 0, .int .i64 0, .list true [], .int .i64 0, .list true [], .bool false] [], none),
      (.store 17 (.r 6) (.l 0), none),
      (.move (.k (.int .i64 4)), none)] [(7, 2)] [])
    .ret)
    (.seq (.region [(.faddr 8 (.r 4), none),
      (.load none (.l 0), none),
      (.move (.l 1), none)] [(19, 2)] [])
    (.cond (.r 19) (.seq (.region [(.build [.str [], .bool false, .bool false, .bool false, .bool false, .bool false, .bool false, .bool false, .bool false, .int .u8 0, .int .i64 0, .int .i64 0, .int .i64 0, .list true [], .int .i64 0, .list true [], .bool false] [], none),
       (.store 17 (.r 6) (.l 0), none),
       (.move (.k (.int .i64 15)), none)] [(7, 2)] [])
     .ret)
     .skip)))))))
  (.seq (.region [(.faddr 8 (.r 4), none),
    (.store 1 (.l 0) (.k (.bool true)), none),
    (.faddr 7 (.r 4), none),
    (.store 1 (.l 2) (.k (.bool false)), none),
    (.faddr 9 (.r 4), none),
    (.store 1 (.l 4) (.k (.int .u8 0)), none),
    (.faddr 12 (.r 4), none),
    (.store 1 (.l 6) (.k (.int .i64 0)), none)] [] [])
  (.seq (.region [(.load (some 13) (.r 4), none),
    (.move (.r 0), none),
    (.call 72 [(.l 1)], none),
    (.move (.r 2), none),
    (.build [.str [], .bool false, .bool false, .bool false, .bool false, .bool false, .bool false, .bool false, .bool false, .int .u8 0, .int .i64 0, .int .i64 0, .int .i64 0, .list true [], .int .i64 0, .list true [], .bool false] [(0, 13, (.l 0)), (13, 1, (.l 2)), (16, 1, (.l 3))], none),
    (.store 17 (.r 6) (.l 4), none),
    (.move (.k (.int .i64 0)), none)] [(7, 6)] [(0, 2)])
  .ret)))) }
/- canopy/canopyref22.Begin -/
def c37 : AFn := { results := [.cell 6 (some 17), .reg 7], body := (.seq (.region [(.box (.r 1), none),
    (.alloc (.agg [.str [], .bool false, .bool false, .bool false, .bool false, .bool false, .bool false, .bool false, .bool false, .int .u8 0, .int .i64 0, .int .i64 0, .int .i64 0, .list true [], .int .i64 0, .list true [], .bool false]), none),
    (.move (.k (.int .i64 0)), none)] [(4, 0), (6, 1), (7, 2)] [])
  (.seq (.block 0 (.seq (.region [(.move (.r 0), none),
    (.len .sl (.l 0), none),
    (.bin .gtr .other (.l 1) (.k (.int .i64 4096)), none),
    (.move (.l 2), none)] [(8, 3)] [])
  (.cond (.r 8) (.seq (.region [(.build [.str [], .bool false, .bool false, .bool false, .bool false, .bool false, .bool false, .bool false, .bool false, .int .u8 0, .int .i64 0, .int .i64 0, .int .i64 0, .list true [], .int .i64 0, .list true [], .bool false] [], none),
     (.store 17 (.r 6) (.l 0), none),
     (.move (.k (.int .i64 3)), none)] [(7, 2)] [])
   .ret)
   (.seq (.region [(.faddr 0 (.r 4), none),
     (.load none (.l 0), none),
     (.len .str (.l 1), none),
     (.bin .gtr .other (.l 2) (.k (.int .i64 1024)), none),
     (.move (.l 3), none)] [(13, 4)] [])
   (.cond (.r 13) (.seq (.region [(.build [.str [], .bool false, .bool false, .bool false, .bool false, .bool false, .bool false, .bool false, .bool false, .int .u8 0, .int .i64 0, .int .i64 0, .int .i64 0, .list true [], .int .i64 0, .list true [], .bool false] [], none),
      (.store 17 (.r 6) (.l 0), none),
      (.move (.k (.int .i64 4)), none)] [(7, 2)] [])
    .ret)
    (.seq (.region [(.faddr 8 (.r 4), none),
      (.load none (.l 0), none),
      (.move (.l 1), none)] [(19, 2)] [])
    (.cond (.r 19) (.seq (.region [(.build [.str [], .bool false, .bool false, .bool false, .bool false, .bool false, .bool false, .bool false, .bool false, .int .u8 0, .int .i64 0, .int .i64 0, .int .i64 0, .list true [], .int .i64 0, .list true [], .bool false] [], none),
       (.store 17 (.r 6) (.l 0), none),
       (.move (.k (.int .i64 15)), none)] [(7, 2)] [])
     .ret)
     .skip)))))))
  (.seq (.region [(.faddr 8 (.r 4), none),
    (.store 1 (.l 0) (.k (.bool true)), none)] [] [])
  (.seq (.region [(.faddr 7 (.r 4), none),
    (.store 1 (.l 0) (.k (.bool false)), none)] [] [])
  (.seq (.region [(.faddr 9 (.r 4), none),
    (.store 1 (.l 0) (.k (.int .u8 0)), none)] [] [])
  (.seq (.region [(.faddr 12 (.r 4), none),
    (.store 1 (.l 0) (.k (.int .i64 0)), none)] [] [])
  (.seq (.region [(.load (some 13) (.r 4), none),
    (.bslice 0 (.agg [.int .i64 0, .bool false, .int .i64 0, .int .i64 0, .bool false, .bool false]) [], none),
    (.move (.r 0), none),
    (.app 6 40 (.l 1) (.l 2), none),
    (.move (.r 2), none),
    (.build [.str [], .bool false, .bool false, .bool false, .bool false, .bool false, .bool false, .bool false, .bool false, .int .u8 0, .int .i64 0, .int .i64 0, .int .i64 0, .list true [], .int .i64 0, .list true [], .bool false] [(0, 13, (.l 0)), (13, 1, (.l 3)), (16, 1, (.l 4))], none),
    (.store 17 (.r 6) (.l 5), none),
    (.move (.k (.int .i64 0)), none)] [(7, 7)] [(0, 1), (0, 3)])
  .ret))))))) }
/- canopy/dispatch.End -/
def c38 : AFn := { results := [.cell 2 (some 13), .reg 3, .reg 4], body := (.seq (.region [(.box (.r 0), none),
    (.alloc (.agg [.str [], .bool false, .bool false, .bool false, .bool false, .bool false, .bool false, .bool false, .bool false, .int .u8 0, .int .i64 0, .int .i64 0, .int .i64 0]), none),
    (.move (.k (.bool false)), none),
    (.move (.k (.int .i64 0)), none)] [(1, 0), (2, 1), (3, 2), (4, 3)] [])
  (.seq (.seq (.region [(.load (some 17) (.r 1), none),
    (.call 41 [(.l 0)], none),
    (.un .not (.l 1), none)] [(8, 2)] [])
  (.cond (.r 8) (.seq (.region [(.build [.str [], .bool false, .bool false, .bool false, .bool false, .bool false, .bool false, .bool false, .bool false, .int .u8 0, .int .i64 0, .int .i64 0, .int .i64 0] [], none),
     (.store 13 (.r 2) (.l 0), none),
     (.move (.k (.bool false)), none),
     (.move (.k (.int .i64 15)), none)] [(3, 2), (4, 3)] [])
   .ret)
   .skip))
  (.seq (.region [(.faddr 0 (.r 1), none),
    (.load (some 13) (.l 0), none),
    (.alloc (.agg [.str [], .bool false, .bool false, .bool false, .bool false, .bool false, .bool false, .bool false, .bool false, .int .u8 0, .int .i64 0, .int .i64 0, .int .i64 0]), none),
    (.store 13 (.l 2) (.l 1), none)] [(5, 2)] [])
  (.seq (.region [(.faddr 8 (.r 5), none),
    (.store 1 (.l 0) (.k (.bool false)), none),
    (.faddr 5 (.r 5), none),
    (.store 1 (.l 2) (.k (.bool false)), none),
    (.faddr 6 (.r 5), none),
    (.store 1 (.l 4) (.k (.bool false)), none),
    (.faddr 7 (.r 5), none),
    (.store 1 (.l 6) (.k (.bool false)), none),
    (.faddr 9 (.r 5), none),
    (.store 1 (.l 8) (.k (.int .u8 0)), none),
    (.faddr 12 (.r 5), none),
    (.store 1 (.l 10) (.k (.int .i64 0)), none)] [] [])
  (.seq (.seq (.region [(.faddr 16 (.r 1), none),
    (.load none (.l 0), none)] [(19, 1)] [])
  (.cond (.r 19) (.region [(.faddr 10 (.r 5), none),
     (.store 1 (.l 0) (.k (.int .i64 0)), none),
     (.faddr 11 (.r 5), none),
     (.store 1 (.l 2) (.k (.int .i64 0)), none)] [] [])
   .skip))
  (.seq (.region [(.load (some 13) (.r 5), none),
    (.faddr 4 (.r 5), none),
    (.load none (.l 1), none),
    (.un .not (.l 2), none),
    (.store 13 (.r 2) (.l 0), none),
    (.move (.l 3), none),
    (.move (.k (.int .i64 0)), none)] [(3, 5), (4, 6)] [(2, 4)])
  .ret)))))) }
/- canopy/canopyref22.End -/
def c39 : AFn := { results := [.cell 2 (some 13), .reg 3, .reg 4], body := (.seq (.region [(.box (.r 0), none),
    (.alloc (.agg [.str [], .bool false, .bool false, .bool false, .bool false, .bool false, .bool false, .bool false, .bool false, .int .u8 0, .int .i64 0, .int .i64 0, .int .i64 0]), none),
    (.move (.k (.bool false)), none),
    (.move (.k (.int .i64 0)), none)] [(1, 0), (2, 1), (3, 2), (4, 3)] [])
  (.seq (.seq (.region [(.load (some 17) (.r 1), none),
    (.call 42 [(.l 0)], none),
    (.un .not (.l 1), none)] [(8, 2)] [])
  (.cond (.r 8) (.seq (.region [(.build [.str [], .bool false, .bool false, .bool false, .bool false, .bool false, .bool false, .bool false, .bool false, .int .u8 0, .int .i64 0, .int .i64 0, .int .i64 0] [], none),
     (.store 13 (.r 2) (.l 0), none),
     (.move (.k (.bool false)), none),
     (.move (.k (.int .i64 15)), none)] [(3, 2), (4, 3)] [])
   .ret)
   .skip))
  (.seq (.region [(.faddr 0 (.r 1), none),
    (.load (some 13) (.l 0), none),
    (.alloc (.agg [.str [], .bool false, .bool false, .bool false, .bool false, .bool false, .bool false, .bool false, .bool false, .int .u8 0, .int .i64 0, .int .i64 0, .int .i64 0]), none),
    (.store 13 (.l 2) (.l 1), none)] [(5, 2)] [])
  (.seq (.region [(.faddr 8 (.r 5), none),
    (.store 1 (.l 0) (.k (.bool false)), none)] [] [])
  (.seq (.region [(.faddr 5 (.r 5), none),
    (.store 1 (.l 0) (.k (.bool false)), none)] [] [])
  (.seq (.region [(.faddr 6 (.r 5), none),
    (.store 1 (.l 0) (.k (.bool false)), none)] [] [])
  (.seq (.region [(.faddr 7 (.r 5), none),
    (.store 1 (.l 0) (.k (.bool false)), none)] [] [])
  (.seq (.region [(.faddr 9 (.r 5), none),
    (.store 1 (.l 0) (.k (.int .u8 0)), none)] [] [])
  (.seq (.region [(.faddr 12 (.r 5), none),
    (.store 1 (.l 0) (.k (.int .i64 0)), none)] [] [])
  (.seq (.seq (.region [(.faddr 16 (.r 1), none),
    (.load none (.l 0), none)] [(19, 1)] [])
  (.cond (.r 19) (.seq (.region [(.faddr 10 (.r 5), none),
     (.store 1 (.l 0) (.k (.int .i64 0)), none)] [] [])
   (.region [(.faddr 11 (.r 5), none),
     (.store 1 (.l 0) (.k (.int .i64 0)), none)] [] []))
   .skip))
  (.seq (.region [(.load (some 13) (.r 5), none),
    (.faddr 4 (.r 5), none),
    (.load none (.l 1), none),
    (.un .not (.l 2), none),
    (.store 13 (.r 2) (.l 0), none),
    (.move (.l 3), none),
    (.move (.k (.int .i64 0)), none)] [(3, 5), (4, 6)] [(2, 4)])
  .ret))))))))))) }
/- canopy/canopyref22.Same -/
def c40B0 : C := (.seq (.seq (.region [(.move (.r 5), none),
    (.faddr 15 (.r 2), none),
    (.load none (.l 1), none),
    (.len .sl (.l 2), none),
    (.bin .lss .other (.l 0) (.l 3), none)] [(46, 4)] [])
  (.cond (.r 46) .skip
   (.exit 0)))
  (.seq (.block 1 (.seq (.region [(.faddr 15 (.r 2), none),
    (.load none (.l 0), none),
    (.move (.r 5), none),
    (.iaddr 1 (.l 1) (.l 2), none),
    (.load none (.l 3), none),
    (.faddr 15 (.r 3), none),
    (.load none (.l 5), none),
    (.move (.r 5), none),
    (.iaddr 1 (.l 6) (.l 7), none),
    (.load none (.l 8), none),
    (.bin .neq .other (.l 4) (.l 9), none)] [(59, 10)] [])
  (.cond (.r 59) (.seq (.region [(.move (.k (.bool false)), none)] [(4, 0)] [])
   .ret)
   .skip)))
  (.region [(.move (.r 5), none),
    (.bin .add .other (.l 0) (.k (.int .i64 1)), none),
    (.move (.l 1), none)] [(5, 2)] [])))
def c40 : AFn := { results := [.reg 4], body := (.seq (.region [(.box (.r 0), none),
    (.box (.r 1), none),
    (.move (.k (.bool false)), none)] [(2, 0), (3, 1), (4, 2)] [])
  (.seq (.seq (.region [(.faddr 0 (.r 2), none),
    (.load (some 13) (.l 0), none),
    (.faddr 0 (.r 3), none),
    (.load (some 13) (.l 2), none),
    (.bin .neq (.agg [.str, .bool, .bool, .bool, .bool, .bool, .bool, .bool, .bool, .int, .int, .int, .int]) (.l 1) (.l 3), none),
    (.move (.l 4), none),
    (.faddr 13 (.r 2), (some (5, false))),
    (.load none (.l 6), (some (5, false))),
    (.faddr 13 (.r 3), (some (5, false))),
    (.load none (.l 8), (some (5, false))),
    (.call 43 [(.l 7), (.l 9)], (some (5, false))),
    (.un .not (.l 10), (some (5, false))),
    (.pick (.l 5) (.k (.bool true)) (.l 11), none),
    (.move (.l 12), none),
    (.faddr 14 (.r 2), (some (13, false))),
    (.load none (.l 14), (some (13, false))),
    (.faddr 14 (.r 3), (some (13, false))),
    (.load none (.l 16), (some (13, false))),
    (.bin .neq .other (.l 15) (.l 17), (some (13, false))),
    (.pick (.l 13) (.k (.bool true)) (.l 18), none),
    (.move (.l 19), none),
    (.faddr 16 (.r 2), (some (20, false))),
    (.load none (.l 21), (some (20, false))),
    (.faddr 16 (.r 3), (some (20, false))),
    (.load none (.l 23), (some (20, false))),
    (.bin .neq .bool (.l 22) (.l 24), (some (20, false))),
    (.pick (.l 20) (.k (.bool true)) (.l 25), none),
    (.move (.l 26), none),
    (.faddr 15 (.r 2), (some (27, false))),
    (.load none (.l 28), (some (27, false))),
    (.len .sl (.l 29), (some (27, false))),
    (.faddr 15 (.r 3), (some (27, false))),
    (.load none (.l 31), (some (27, false))),
    (.len .sl (.l 32), (some (27, false))),
    (.bin .neq .other (.l 30) (.l 33), (some (27, false))),
    (.pick (.l 27) (.k (.bool true)) (.l 34), none)] [(41, 35)] [(5, 5), (13, 13), (20, 20), (27, 27)])
  (.cond (.r 41) (.seq (.region [(.move (.k (.bool false)), none)] [(4, 0)] [])
   .ret)
   .skip))
  (.seq (.seq (.region [(.move (.k (.int .i64 0)), none)] [(5, 0)] [])
  (.block 0 (.loop c40B0)))
  (.seq (.region [(.move (.k (.bool true)), none)] [(4, 0)] [])
  .ret)))) }
/- canopy/dispatch.Ended -/
def c41 : AFn := { results := [.reg 2], body := (.seq (.region [(.box (.r 0), none),
    (.move (.k (.bool false)), none)] [(1, 0), (2, 1)] [])
  (.seq (.region [(.load (some 17) (.r 1), none),
    (.call 73 [(.l 0)], none),
    (.move (.l 1), none),
    (.faddr 14 (.r 1), (some (2, true))),
    (.load none (.l 3), (some (2, true))),
    (.faddr 13 (.r 1), (some (2, true))),
    (.load none (.l 5), (some (2, true))),
    (.len .sl (.l 6), (some (2, true))),
    (.bin .mul .other (.k (.int .i64 2)) (.l 7), (some (2, true))),
    (.bin .eql .other (.l 4) (.l 8), (some (2, true))),
    (.pick (.l 2) (.l 9) (.k (.bool false)), none),
    (.move (.l 10), none),
    (.faddr 15 (.r 1), (some (11, true))),
    (.load none (.l 12), (some (11, true))),
    (.len .sl (.l 13), (some (11, true))),
    (.bin .eql .other (.l 14) (.k (.int .i64 0)), (some (11, true))),
    (.pick (.l 11) (.l 15) (.k (.bool false)), none),
    (.move (.l 16), none)] [(2, 17)] [(2, 2), (11, 11)])
  .ret)) }
/- canopy/canopyref22.Ended -/
def c42 : AFn := { results := [.reg 2], body := (.seq (.region [(.box (.r 0), none),
    (.move (.k (.bool false)), none)] [(1, 0), (2, 1)] [])
  (.seq (.region [(.load (some 17) (.r 1), none),
    (.call 57 [(.l 0)], none),
    (.move (.l 1), none),
    (.faddr 14 (.r 1), (some (2, true))),
    (.load none (.l 3), (some (2, true))),
    (.faddr 13 (.r 1), (some (2, true))),
    (.load none (.l 5), (some (2, true))),
    (.len .sl (.l 6), (some (2, true))),
    (.bin .mul .other (.k (.int .i64 2)) (.l 7), (some (2, true))),
    (.bin .eql .other (.l 4) (.l 8), (some (2, true))),
    (.pick (.l 2) (.l 9) (.k (.bool false)), none),
    (.move (.l 10), none),
    (.faddr 15 (.r 1), (some (11, true))),
    (.load none (.l 12), (some (11, true))),
    (.len .sl (.l 13), (some (11, true))),
    (.bin .eql .other (.l 14) (.k (.int .i64 0)), (some (11, true))),
    (.pick (.l 11) (.l 15) (.k (.bool false)), none),
    (.move (.l 16), none)] [(2, 17)] [(2, 2), (11, 11)])
  .ret)) }
/- canopy/canopyref20.Same -/
def c43B0 : C := (.seq (.seq (.region [(.move (.r 5), none),
    (.move (.r 0), none),
    (.len .sl (.l 1), none),
    (.bin .lss .other (.l 0) (.l 2), none)] [(14, 3)] [])
  (.cond (.r 14) .skip
   (.exit 0)))
  (.seq (.block 1 (.seq (.region [(.move (.r 0), none),
    (.move (.r 5), none),
    (.iaddr 6 (.l 0) (.l 1), none),
    (.load (some 6) (.l 2), none),
    (.move (.r 1), none),
    (.move (.r 5), none),
    (.iaddr 6 (.l 4) (.l 5), none),
    (.load (some 6) (.l 6), none),
    (.bin .neq (.agg [.int, .bool, .int, .int, .bool, .bool]) (.l 3) (.l 7), none)] [(25, 8)] [])
  (.cond (.r 25) (.seq (.region [(.move (.k (.bool false)), none)] [(4, 0)] [])
   .ret)
   .skip)))
  (.region [(.move (.r 5), none),
    (.bin .add .other (.l 0) (.k (.int .i64 1)), none),
    (.move (.l 1), none)] [(5, 2)] [])))
def c43 : AFn := { results := [.reg 4], body := (.seq (.region [(.move (.k (.bool false)), none)] [(4, 0)] [])
  (.seq (.seq (.region [(.move (.r 0), none),
    (.len .sl (.l 0), none),
    (.move (.r 1), none),
    (.len .sl (.l 2), none),
    (.bin .neq .other (.l 1) (.l 3), none)] [(10, 4)] [])
  (.cond (.r 10) (.seq (.region [(.move (.k (.bool false)), none)] [(4, 0)] [])
   .ret)
   .skip))
  (.seq (.seq (.region [(.move (.k (.int .i64 0)), none)] [(5, 0)] [])
  (.block 0 (.loop c43B0)))
  (.seq (.region [(.move (.k (.bool true)), none)] [(4, 0)] [])
  .ret)))) }
/- canopy/canopylaw22.begins -/
def c44 : AFn := { results := [.reg 0], body := (.seq (.region [(.move (.k (.bool false)), none)] [(0, 0)] [])
  (.seq (.region [(.call 74 [], none),
    (.move (.l 0), none),
    (.extract (.l 1) 0, none),
    (.extract (.l 1) 1, none),
    (.alloc (.agg [.list true [], .int .i64 0]), none),
    (.store 2 (.l 4) (.l 2), none),
    (.move (.l 3), none)] [(1, 4), (2, 6)] [])
  (.seq (.region [(.load (some 2) (.r 1), none),
    (.move (.r 2), none),
    (.build [.str [], .bool false, .bool false, .bool false, .bool false, .bool false, .bool false, .bool false, .bool false, .int .u8 0, .int .i64 0, .int .i64 0, .int .i64 0] [(0, 1, (.k (.str [120]))), (1, 1, (.k (.bool true)))], none),
    (.call 50 [(.l 0), (.l 1), (.l 2), (.k (.bool false)), (.k (.list true []))], none),
    (.move (.l 3), none),
    (.extract (.l 4) 0, none),
    (.extract (.l 4) 1, none),
    (.extract (.l 4) 2, none),
    (.extract (.l 4) 3, none),
    (.extract (.l 4) 4, none),
    (.alloc (.agg [.list true [], .int .i64 0]), none),
    (.alloc (.agg [.str [], .bool false, .bool false, .bool false, .bool false, .bool false, .bool false, .bool false, .bool false, .int .u8 0, .int .i64 0, .int .i64 0, .int .i64 0]), none),
    (.move (.l 5), none),
    (.store 2 (.l 10) (.l 6), none),
    (.store 13 (.l 11) (.l 7), none),
    (.move (.l 8), none),
    (.move (.l 9), none)] [(5, 11), (3, 12), (6, 15), (7, 16)] [])
  (.seq (.region [(.load (some 2) (.r 1), none),
    (.move (.r 2), none),
    (.build [.str [], .bool false, .bool false, .bool false, .bool false, .bool false, .bool false, .bool false, .bool false, .int .u8 0, .int .i64 0, .int .i64 0, .int .i64 0] [(0, 1, (.k (.str [120]))), (2, 1, (.k (.bool true)))], none),
    (.bslice 1 (.int .u8 0) [(0, (.k (.int .u8 3)))], none),
    (.build [.int .i64 0, .list true [], .list true []] [(0, 1, (.k (.int .i64 8))), (1, 1, (.l 3))], none),
    (.bslice 1 (.agg [.int .i64 0, .list true [], .list true []]) [(0, (.l 4))], none),
    (.call 50 [(.l 0), (.l 1), (.l 2), (.k (.bool false)), (.l 5)], none),
    (.move (.l 6), none),
    (.extract (.l 7) 0, none),
    (.extract (.l 7) 1, none),
    (.extract (.l 7) 2, none),
    (.extract (.l 7) 3, none),
    (.extract (.l 7) 4, none),
    (.alloc (.agg [.list true [], .int .i64 0]), none),
    (.alloc (.agg [.str [], .bool false, .bool false, .bool false, .bool false, .bool false, .bool false, .bool false, .bool false, .int .u8 0, .int .i64 0, .int .i64 0, .int .i64 0]), none),
    (.move (.l 8), none),
    (.store 2 (.l 13) (.l 9), none),
    (.store 13 (.l 14) (.l 10), none),
    (.move (.l 11), none),
    (.move (.l 12), none)] [(8, 15), (11, 18), (12, 19)] [])
  (.seq (.region [(.move (.r 2), none),
    (.build [.str [], .bool false, .bool false, .bool false, .bool false, .bool false, .bool false, .bool false, .bool false, .int .u8 0, .int .i64 0, .int .i64 0, .int .i64 0] [(8, 1, (.k (.bool true)))], none),
    (.call 36 [(.l 0), (.l 1), (.k (.bool false))], none),
    (.move (.l 2), none),
    (.extract (.l 3) 0, none),
    (.extract (.l 3) 1, none),
    (.alloc (.agg [.str [], .bool false, .bool false, .bool false, .bool false, .bool false, .bool false, .bool false, .bool false, .int .u8 0, .int .i64 0, .int .i64 0, .int .i64 0, .list true [], .int .i64 0, .list true [], .bool false]), none),
    (.store 17 (.l 6) (.l 4), none),
    (.move (.l 5), none)] [(14, 8)] [])
  (.seq (.region [(.move (.r 7), none),
    (.bin .eql .other (.l 0) (.k (.int .i64 0)), none),
    (.move (.l 1), none),
    (.move (.r 3), (some (2, true))),
    (.build [.int .i64 0, .int .i64 0, .int .i64 0] [(0, 1, (.k (.int .i64 1))), (1, 1, (.k (.int .i64 7))), (2, 1, (.k (.int .i64 2)))], (some (2, true))),
    (.build [.int .i64 0, .int .i64 0, .int .i64 0] [(0, 1, (.k (.int .i64 2))), (1, 1, (.k (.int .i64 8)))], (some (2, true))),
    (.build [.int .i64 0, .int .i64 0, .int .i64 0] [(0, 1, (.k (.int .i64 3))), (1, 1, (.k (.int .i64 9))), (2, 1, (.k (.int .i64 2)))], (some (2, true))),
    (.bslice 3 (.agg [.int .i64 0, .int .i64 0, .int .i64 0]) [(0, (.l 4)), (1, (.l 5)), (2, (.l 6))], (some (2, true))),
    (.call 52 [(.l 3), (.l 7)], (some (2, true))),
    (.pick (.l 2) (.l 8) (.k (.bool false)), none),
    (.move (.l 9), none),
    (.faddr 10 (.r 5), (some (10, true))),
    (.load none (.l 11), (some (10, true))),
    (.bin .eql .other (.l 12) (.k (.int .i64 3)), (some (10, true))),
    (.pick (.l 10) (.l 13) (.k (.bool false)), none),
    (.move (.l 14), none),
    (.move (.r 6), (some (15, true))),
    (.pick (.l 15) (.l 16) (.k (.bool false)), none),
    (.move (.l 17), none),
    (.move (.r 12), (some (18, true))),
    (.bin .eql .other (.l 19) (.k (.int .i64 0)), (some (18, true))),
    (.pick (.l 18) (.l 20) (.k (.bool false)), none),
    (.move (.l 21), none),
    (.move (.r 8), (some (22, true))),
    (.len .sl (.l 23), (some (22, true))),
    (.bin .eql .other (.l 24) (.k (.int .i64 2)), (some (22, true))),
    (.pick (.l 22) (.l 25) (.k (.bool false)), none),
    (.move (.l 26), none),
    (.move (.r 11), (some (27, true))),
    (.un .not (.l 28), (some (27, true))),
    (.pick (.l 27) (.l 29) (.k (.bool false)), none),
    (.move (.l 30), none),
    (.move (.r 14), (some (31, true))),
    (.bin .eql .other (.l 32) (.k (.int .i64 15)), (some (31, true))),
    (.pick (.l 31) (.l 33) (.k (.bool false)), none),
    (.move (.l 34), none)] [(0, 35)] [(2, 2), (10, 10), (15, 15), (18, 18), (22, 22), (27, 27), (31, 31)])
  .ret)))))) }
/- canopy/canopyref22.Copy -/
def c45 : AFn := { results := [.cell 2 (some 17)], body := (.seq (.region [(.box (.r 0), none),
    (.alloc (.agg [.str [], .bool false, .bool false, .bool false, .bool false, .bool false, .bool false, .bool false, .bool false, .int .u8 0, .int .i64 0, .int .i64 0, .int .i64 0, .list true [], .int .i64 0, .list true [], .bool false]), none)] [(1, 0), (2, 1)] [])
  (.seq (.region [(.bslice 0 (.agg [.int .i64 0, .bool false, .int .i64 0, .int .i64 0, .bool false, .bool false]) [], none),
    (.faddr 13 (.r 1), none),
    (.load none (.l 1), none),
    (.app 6 40 (.l 0) (.l 2), none),
    (.faddr 13 (.r 1), none),
    (.store 1 (.l 4) (.l 3), none)] [] [])
  (.seq (.region [(.bslice 0 (.int .i64 0) [], none),
    (.faddr 15 (.r 1), none),
    (.load none (.l 1), none),
    (.app 1 8 (.l 0) (.l 2), none),
    (.faddr 15 (.r 1), none),
    (.store 1 (.l 4) (.l 3), none)] [] [])
  (.seq (.region [(.load (some 17) (.r 1), none),
    (.store 17 (.r 2) (.l 0), none)] [] [])
  .ret)))) }
/- canopy/dispatch.Next -/
def c46B0 : C := (.block 1 (.seq (.seq (.region [(.load (some 2) (.r 2), none),
    (.call 77 [(.l 0), (.r 10)], none),
    (.move (.l 1), none),
    (.extract (.l 2) 0, none),
    (.extract (.l 2) 1, none),
    (.extract (.l 2) 2, none),
    (.alloc (.agg [.list true [], .int .i64 0]), none),
    (.alloc (.agg [.int .i64 0, .int .i64 0, .int .i64 0]), none),
    (.store 2 (.l 6) (.l 3), none),
    (.store 3 (.l 7) (.l 4), none),
    (.move (.l 5), none)] [(11, 6), (12, 7), (13, 10)] [])
  (.seq (.region [(.move (.r 13), none)] [(46, 0)] [])
  (.cond (.r 46) (.seq (.region [(.load (some 17) (.r 10), none),
     (.load (some 2) (.r 11), none),
     (.load (some 3) (.r 12), none),
     (.store 17 (.r 4) (.l 0), none),
     (.store 2 (.r 5) (.l 1), none),
     (.store 3 (.r 6) (.l 2), none),
     (.move (.k (.bool true)), none),
     (.move (.k (.int .i64 0)), none)] [(7, 6), (8, 7)] [(1, 3), (2, 3), (2, 4)])
   .ret)
   .skip)))
  (.seq (.seq (.region [(.faddr 14 (.r 10), none),
    (.load none (.l 0), none),
    (.faddr 13 (.r 10), none),
    (.load none (.l 2), none),
    (.len .sl (.l 3), none),
    (.bin .mul .other (.k (.int .i64 2)) (.l 4), none),
    (.bin .eql .other (.l 1) (.l 5), none)] [(56, 6)] [])
  (.cond (.r 56) (.seq (.region [(.load (some 17) (.r 10), none),
     (.load (some 2) (.r 2), none),
     (.build [.int .i64 0, .int .i64 0, .int .i64 0] [], none),
     (.store 17 (.r 4) (.l 0), none),
     (.store 2 (.r 5) (.l 1), none),
     (.store 3 (.r 6) (.l 2), none),
     (.move (.k (.bool false)), none),
     (.move (.k (.int .i64 0)), none)] [(7, 6), (8, 7)] [(1, 3)])
   .ret)
   .skip))
  (.region [(.load (some 2) (.r 2), none),
    (.call 78 [(.l 0), (.r 10)], none)] [] []))))
def c46 : AFn := { results := [.cell 4 (some 17), .cell 5 (some 2), .cell 6 (some 3), .reg 7, .reg 8], body := (.seq (.region [(.box (.r 0), none),
    (.box (.r 1), none),
    (.alloc (.agg [.str [], .bool false, .bool false, .bool false, .bool false, .bool false, .bool false, .bool false, .bool false, .int .u8 0, .int .i64 0, .int .i64 0, .int .i64 0, .list true [], .int .i64 0, .list true [], .bool false]), none),
    (.alloc (.agg [.list true [], .int .i64 0]), none),
    (.alloc (.agg [.int .i64 0, .int .i64 0, .int .i64 0]), none),
    (.move (.k (.bool false)), none),
    (.move (.k (.int .i64 0)), none)] [(2, 0), (3, 1), (4, 2), (5, 3), (6, 4), (7, 5), (8, 6)] [])
  (.seq (.seq (.region [(.load (some 2) (.r 2), none),
    (.call 21 [(.l 0)], none),
    (.move (.l 1), none)] [(9, 2)] [])
  (.seq (.region [(.move (.r 9), none),
    (.bin .neq .other (.l 0) (.k (.int .i64 0)), none)] [(17, 1)] [])
  (.cond (.r 17) (.seq (.region [(.build [.str [], .bool false, .bool false, .bool false, .bool false, .bool false, .bool false, .bool false, .bool false, .int .u8 0, .int .i64 0, .int .i64 0, .int .i64 0, .list true [], .int .i64 0, .list true [], .bool false] [], none),
     (.build [.list true [], .int .i64 0] [], none),
     (.build [.int .i64 0, .int .i64 0, .int .i64 0] [], none),
     (.move (.r 9), none),
     (.store 17 (.r 4) (.l 0), none),
     (.store 2 (.r 5) (.l 1), none),
     (.store 3 (.r 6) (.l 2), none),
     (.move (.k (.bool false)), none),
     (.move (.l 3), none)] [(7, 7), (8, 8)] [])
   .ret)
   .skip)))
  (.seq (.seq (.region [(.load (some 17) (.r 3), none),
    (.call 73 [(.l 0)], none),
    (.un .not (.l 1), none)] [(24, 2)] [])
  (.cond (.r 24) (.seq (.region [(.build [.str [], .bool false, .bool false, .bool false, .bool false, .bool false, .bool false, .bool false, .bool false, .int .u8 0, .int .i64 0, .int .i64 0, .int .i64 0, .list true [], .int .i64 0, .list true [], .bool false] [], none),
     (.build [.list true [], .int .i64 0] [], none),
     (.build [.int .i64 0, .int .i64 0, .int .i64 0] [], none),
     (.store 17 (.r 4) (.l 0), none),
     (.store 2 (.r 5) (.l 1), none),
     (.store 3 (.r 6) (.l 2), none),
     (.move (.k (.bool false)), none),
     (.move (.k (.int .i64 15)), none)] [(7, 6), (8, 7)] [])
   .ret)
   .skip))
  (.seq (.region [(.load (some 17) (.r 3), none),
    (.call 75 [(.l 0)], none),
    (.alloc (.agg [.str [], .bool false, .bool false, .bool false, .bool false, .bool false, .bool false, .bool false, .bool false, .int .u8 0, .int .i64 0, .int .i64 0, .int .i64 0, .list true [], .int .i64 0, .list true [], .bool false]), none),
    (.store 17 (.l 2) (.l 1), none)] [(10, 2)] [])
  (.seq (.region [(.faddr 0 (.r 2), none),
    (.load none (.l 0), none),
    (.call 76 [(.l 1)], none),
    (.faddr 0 (.r 2), none),
    (.store 1 (.l 3) (.l 2), none)] [] [])
  (.seq (.region [(.faddr 0 (.r 10), none),
    (.faddr 7 (.l 0), none),
    (.store 1 (.l 1) (.k (.bool false)), none)] [] [])
  (.seq (.seq (.region [(.faddr 0 (.r 10), none),
    (.faddr 6 (.l 0), none),
    (.load none (.l 1), none)] [(38, 2)] [])
  (.cond (.r 38) (.region [(.faddr 15 (.r 10), none),
     (.store 1 (.l 0) (.k (.list true [])), none)] [] [])
   .skip))
  (.block 0 (.loop c46B0))))))))) }
/- canopy/canopyref22.Next -/
def c47B0 : C := (.seq (.seq (.region [(.faddr 15 (.r 3), none),
    (.load none (.l 0), none),
    (.len .sl (.l 1), none),
    (.bin .gtr .other (.l 2) (.k (.int .i64 0)), none)] [(40, 3)] [])
  (.cond (.r 40) .skip
   (.exit 2)))
  (.block 3 (.seq (.region [(.faddr 15 (.r 3), none),
    (.load none (.l 0), none),
    (.iaddr 1 (.l 1) (.k (.int .i64 0)), none),
    (.load none (.l 2), none),
    (.move (.l 3), none)] [(10, 4)] [])
  (.seq (.region [(.faddr 15 (.r 3), none),
    (.load none (.l 0), none),
    (.slice 1 (.l 1) (some (.k (.int .i64 1))) none none, none),
    (.faddr 15 (.r 3), none),
    (.store 1 (.l 3) (.l 2), none)] [] [])
  (.seq (.region [(.load (some 2) (.r 2), none),
    (.move (.r 10), none),
    (.call 79 [(.l 0), (.l 1)], none),
    (.move (.l 2), none),
    (.extract (.l 3) 0, none),
    (.extract (.l 3) 1, none),
    (.alloc (.agg [.int .i64 0, .int .i64 0, .str [], .int .i64 0, .bool false, .bool false, .int .u8 0, .int .i64 0]), none),
    (.store 8 (.l 6) (.l 4), none),
    (.move (.l 5), none)] [(11, 6), (12, 8)] [])
  (.seq (.seq (.region [(.move (.r 12), none),
    (.un .not (.l 0), none)] [(56, 1)] [])
  (.cond (.r 56) (.exit 3)
   .skip))
  (.seq (.seq (.region [(.faddr 5 (.r 11), none),
    (.load none (.l 0), none)] [(58, 1)] [])
  (.cond (.r 58) (.region [(.load (some 2) (.r 2), none),
     (.move (.r 10), none),
     (.call 35 [(.l 0), (.l 1)], none),
     (.move (.l 2), none),
     (.extract (.l 3) 0, none),
     (.extract (.l 3) 1, none),
     (.extract (.l 3) 2, none),
     (.store 2 (.r 2) (.l 4), none)] [] [])
   .skip))
  (.seq (.region [(.faddr 6 (.r 11), none),
    (.load none (.l 0), none),
    (.bin .eql .other (.l 1) (.k (.int .u8 1)), none),
    (.faddr 0 (.r 3), none),
    (.faddr 7 (.l 3), none),
    (.store 1 (.l 4) (.l 2), none)] [] [])
  (.seq (.region [(.move (.k (.int .i64 0)), none)] [(13, 0)] [])
  (.seq (.seq (.region [(.faddr 13 (.r 3), none),
    (.load none (.l 0), none),
    (.len .sl (.l 1), none),
    (.bin .gtr .other (.l 2) (.k (.int .i64 0)), none)] [(74, 3)] [])
  (.cond (.r 74) (.region [(.load (some 17) (.r 3), none),
     (.call 80 [(.l 0)], none),
     (.move (.l 1), none),
     (.extract (.l 2) 0, none),
     (.extract (.l 2) 1, none),
     (.move (.l 3), none)] [(13, 5)] [])
   .skip))
  (.seq (.region [(.load (some 17) (.r 3), none),
    (.load (some 2) (.r 2), none),
    (.call 63 [(.l 1)], none),
    (.move (.r 10), none),
    (.faddr 3 (.r 11), none),
    (.load none (.l 4), none),
    (.move (.r 13), none),
    (.build [.int .i64 0, .int .i64 0, .int .i64 0] [(0, 1, (.l 3)), (1, 1, (.l 5)), (2, 1, (.l 6))], none),
    (.store 17 (.r 4) (.l 0), none),
    (.store 2 (.r 5) (.l 2), none),
    (.store 3 (.r 6) (.l 7), none),
    (.move (.k (.bool true)), none),
    (.move (.k (.int .i64 0)), none)] [(7, 11), (8, 12)] [(0, 2), (2, 5), (5, 8), (5, 9)])
  .ret)))))))))))
def c47B1 : C := (.block 1 (.seq (.block 2 (.loop c47B0))
  (.seq (.seq (.region [(.faddr 14 (.r 3), none),
    (.load none (.l 0), none),
    (.faddr 13 (.r 3), none),
    (.load none (.l 2), none),
    (.len .sl (.l 3), none),
    (.bin .mul .other (.k (.int .i64 2)) (.l 4), none),
    (.bin .geq .other (.l 1) (.l 5), none)] [(94, 6)] [])
  (.cond (.r 94) (.seq (.region [(.load (some 17) (.r 3), none),
     (.load (some 2) (.r 2), none),
     (.call 63 [(.l 1)], none),
     (.build [.int .i64 0, .int .i64 0, .int .i64 0] [], none),
     (.store 17 (.r 4) (.l 0), none),
     (.store 2 (.r 5) (.l 2), none),
     (.store 3 (.r 6) (.l 3), none),
     (.move (.k (.bool false)), none),
     (.move (.k (.int .i64 0)), none)] [(7, 7), (8, 8)] [(0, 2)])
   .ret)
   .skip))
  (.region [(.load (some 2) (.r 2), none),
    (.load (some 17) (.r 3), none),
    (.call 81 [(.l 0), (.l 1)], none),
    (.store 17 (.r 3) (.l 2), none)] [] []))))
def c47 : AFn := { results := [.cell 4 (some 17), .cell 5 (some 2), .cell 6 (some 3), .reg 7, .reg 8], body := (.seq (.region [(.box (.r 0), none),
    (.box (.r 1), none),
    (.alloc (.agg [.str [], .bool false, .bool false, .bool false, .bool false, .bool false, .bool false, .bool false, .bool false, .int .u8 0, .int .i64 0, .int .i64 0, .int .i64 0, .list true [], .int .i64 0, .list true [], .bool false]), none),
    (.alloc (.agg [.list true [], .int .i64 0]), none),
    (.alloc (.agg [.int .i64 0, .int .i64 0, .int .i64 0]), none),
    (.move (.k (.bool false)), none),
    (.move (.k (.int .i64 0)), none)] [(2, 0), (3, 1), (4, 2), (5, 3), (6, 4), (7, 5), (8, 6)] [])
  (.seq (.region [(.load (some 2) (.r 2), none),
    (.call 22 [(.l 0)], none),
    (.move (.l 1), none)] [(9, 2)] [])
  (.seq (.seq (.region [(.move (.r 9), none),
    (.bin .eql .other (.l 0) (.k (.int .i64 0)), none),
    (.move (.l 1), none),
    (.load (some 17) (.r 3), (some (2, true))),
    (.call 57 [(.l 3)], (some (2, true))),
    (.un .not (.l 4), (some (2, true))),
    (.pick (.l 2) (.l 5) (.k (.bool false)), none)] [(22, 6)] [(2, 2)])
  (.cond (.r 22) (.region [(.move (.k (.int .i64 15)), none)] [(9, 0)] [])
   .skip))
  (.seq (.seq (.region [(.move (.r 9), none),
    (.bin .neq .other (.l 0) (.k (.int .i64 0)), none)] [(24, 1)] [])
  (.cond (.r 24) (.seq (.region [(.build [.str [], .bool false, .bool false, .bool false, .bool false, .bool false, .bool false, .bool false, .bool false, .int .u8 0, .int .i64 0, .int .i64 0, .int .i64 0, .list true [], .int .i64 0, .list true [], .bool false] [], none),
     (.build [.list true [], .int .i64 0] [], none),
     (.build [.int .i64 0, .int .i64 0, .int .i64 0] [], none),
     (.move (.r 9), none),
     (.store 17 (.r 4) (.l 0), none),
     (.store 2 (.r 5) (.l 1), none),
     (.store 3 (.r 6) (.l 2), none),
     (.move (.k (.bool false)), none),
     (.move (.l 3), none)] [(7, 7), (8, 8)] [])
   .ret)
   .skip))
  (.seq (.region [(.load (some 17) (.r 3), none),
    (.call 45 [(.l 0)], none),
    (.store 17 (.r 3) (.l 1), none)] [] [])
  (.seq (.region [(.faddr 0 (.r 3), none),
    (.faddr 7 (.l 0), none),
    (.store 1 (.l 1) (.k (.bool false)), none)] [] [])
  (.seq (.seq (.region [(.faddr 0 (.r 3), none),
    (.faddr 6 (.l 0), none),
    (.load none (.l 1), none)] [(35, 2)] [])
  (.cond (.r 35) (.region [(.faddr 15 (.r 3), none),
     (.store 1 (.l 0) (.k (.list true [])), none)] [] [])
   .skip))
  (.block 0 (.loop c47B1))))))))) }
/- canopy/dispatch.Act -/
def c48 : AFn := { results := [.cell 4 (some 17), .reg 5], body := (.seq (.region [(.box (.r 0), none),
    (.alloc (.agg [.str [], .bool false, .bool false, .bool false, .bool false, .bool false, .bool false, .bool false, .bool false, .int .u8 0, .int .i64 0, .int .i64 0, .int .i64 0, .list true [], .int .i64 0, .list true [], .bool false]), none),
    (.move (.k (.int .i64 0)), none)] [(2, 0), (4, 1), (5, 2)] [])
  (.seq (.block 0 (.seq (.region [(.load (some 17) (.r 2), none),
    (.call 73 [(.l 0)], none),
    (.un .not (.l 1), none),
    (.move (.l 2), none)] [(6, 3)] [])
  (.cond (.r 6) (.seq (.region [(.build [.str [], .bool false, .bool false, .bool false, .bool false, .bool false, .bool false, .bool false, .bool false, .int .u8 0, .int .i64 0, .int .i64 0, .int .i64 0, .list true [], .int .i64 0, .list true [], .bool false] [], none),
     (.store 17 (.r 4) (.l 0), none),
     (.move (.k (.int .i64 15)), none)] [(5, 2)] [])
   .ret)
   (.seq (.region [(.move (.r 1), none),
     (.bin .geq .other (.l 0) (.k (.int .u8 4)), none),
     (.move (.l 1), none)] [(11, 2)] [])
   (.cond (.r 11) (.seq (.region [(.build [.str [], .bool false, .bool false, .bool false, .bool false, .bool false, .bool false, .bool false, .bool false, .int .u8 0, .int .i64 0, .int .i64 0, .int .i64 0, .list true [], .int .i64 0, .list true [], .bool false] [], none),
      (.store 17 (.r 4) (.l 0), none),
      (.move (.k (.int .i64 23)), none)] [(5, 2)] [])
    .ret)
    .skip)))))
  (.seq (.region [(.load (some 17) (.r 2), none),
    (.call 75 [(.l 0)], none),
    (.store 17 (.r 2) (.l 1), none)] [] [])
  (.seq (.region [(.faddr 0 (.r 2), none),
    (.faddr 5 (.l 0), none),
    (.load none (.l 1), none),
    (.move (.l 2), none),
    (.move (.r 1), (some (3, false))),
    (.bin .eql .other (.l 4) (.k (.int .u8 1)), (some (3, false))),
    (.pick (.l 3) (.k (.bool true)) (.l 5), none),
    (.move (.l 6), none),
    (.move (.r 1), (some (7, false))),
    (.bin .eql .other (.l 8) (.k (.int .u8 2)), (some (7, false))),
    (.pick (.l 7) (.k (.bool true)) (.l 9), none),
    (.faddr 0 (.r 2), none),
    (.faddr 5 (.l 11), none),
    (.store 1 (.l 12) (.l 10), none)] [] [(3, 3), (7, 7)])
  (.seq (.region [(.faddr 0 (.r 2), none),
    (.faddr 6 (.l 0), none),
    (.load none (.l 1), none),
    (.move (.l 2), none),
    (.move (.r 1), (some (3, false))),
    (.bin .eql .other (.l 4) (.k (.int .u8 2)), (some (3, false))),
    (.pick (.l 3) (.k (.bool true)) (.l 5), none),
    (.faddr 0 (.r 2), none),
    (.faddr 6 (.l 7), none),
    (.store 1 (.l 8) (.l 6), none)] [] [(3, 3)])
  (.seq (.seq (.region [(.move (.r 1), none),
    (.bin .eql .other (.l 0) (.k (.int .u8 3)), none),
    (.move (.l 1), none),
    (.faddr 0 (.r 2), (some (2, true))),
    (.faddr 2 (.l 3), (some (2, true))),
    (.load none (.l 4), (some (2, true))),
    (.pick (.l 2) (.l 5) (.k (.bool false)), none),
    (.move (.l 6), none),
    (.faddr 0 (.r 2), (some (7, true))),
    (.faddr 7 (.l 8), (some (7, true))),
    (.load none (.l 9), (some (7, true))),
    (.un .not (.l 10), (some (7, true))),
    (.pick (.l 7) (.l 11) (.k (.bool false)), none)] [(51, 12)] [(2, 2), (7, 7)])
  (.cond (.r 51) (.region [(.faddr 0 (.r 2), none),
     (.faddr 4 (.l 0), none),
     (.store 1 (.l 1) (.k (.bool true)), none)] [] [])
   .skip))
  (.seq (.region [(.load (some 17) (.r 2), none),
    (.store 17 (.r 4) (.l 0), none),
    (.move (.k (.int .i64 0)), none)] [(5, 2)] [])
  .ret))))))) }
/- canopy/canopyref22.Act -/
def c49 : AFn := { results := [.cell 4 (some 17), .reg 5], body := (.seq (.region [(.box (.r 0), none),
    (.alloc (.agg [.str [], .bool false, .bool false, .bool false, .bool false, .bool false, .bool false, .bool false, .bool false, .int .u8 0, .int .i64 0, .int .i64 0, .int .i64 0, .list true [], .int .i64 0, .list true [], .bool false]), none),
    (.move (.k (.int .i64 0)), none)] [(2, 0), (4, 1), (5, 2)] [])
  (.seq (.seq (.region [(.load (some 17) (.r 2), none),
    (.call 57 [(.l 0)], none),
    (.un .not (.l 1), none)] [(8, 2)] [])
  (.cond (.r 8) (.seq (.region [(.build [.str [], .bool false, .bool false, .bool false, .bool false, .bool false, .bool false, .bool false, .bool false, .int .u8 0, .int .i64 0, .int .i64 0, .int .i64 0, .list true [], .int .i64 0, .list true [], .bool false] [], none),
     (.store 17 (.r 4) (.l 0), none),
     (.move (.k (.int .i64 15)), none)] [(5, 2)] [])
   .ret)
   .skip))
  (.seq (.region [(.load (some 17) (.r 2), none),
    (.call 45 [(.l 0)], none),
    (.store 17 (.r 2) (.l 1), none)] [] [])
  (.seq (.seq (.region [(.move (.r 1), none)] [(12, 0)] [])
  (.block 0 (.seq (.region [(.bin .eql .other (.r 12) (.k (.int .u8 0)), none),
    (.move (.l 0), none)] [(14, 1)] [])
  (.cond (.r 14) .skip
   (.seq (.region [(.bin .eql .other (.r 12) (.k (.int .u8 1)), none),
     (.move (.l 0), none)] [(16, 1)] [])
   (.cond (.r 16) (.region [(.faddr 0 (.r 2), none),
      (.faddr 5 (.l 0), none),
      (.store 1 (.l 1) (.k (.bool true)), none)] [] [])
    (.seq (.region [(.bin .eql .other (.r 12) (.k (.int .u8 2)), none),
      (.move (.l 0), none)] [(20, 1)] [])
    (.cond (.r 20) (.seq (.region [(.faddr 0 (.r 2), none),
       (.faddr 5 (.l 0), none),
       (.store 1 (.l 1) (.k (.bool true)), none)] [] [])
     (.region [(.faddr 0 (.r 2), none),
       (.faddr 6 (.l 0), none),
       (.store 1 (.l 1) (.k (.bool true)), none)] [] []))
     (.seq (.region [(.bin .eql .other (.r 12) (.k (.int .u8 3)), none),
       (.move (.l 0), none)] [(26, 1)] [])
     (.cond (.r 26) (.seq (.region [(.faddr 0 (.r 2), none),
        (.faddr 2 (.l 0), none),
        (.load none (.l 1), none),
        (.move (.l 2), none),
        (.faddr 0 (.r 2), (some (3, true))),
        (.faddr 7 (.l 4), (some (3, true))),
        (.load none (.l 5), (some (3, true))),
        (.un .not (.l 6), (some (3, true))),
        (.pick (.l 3) (.l 7) (.k (.bool false)), none)] [(36, 8)] [(3, 3)])
      (.cond (.r 36) (.region [(.faddr 0 (.r 2), none),
         (.faddr 4 (.l 0), none),
         (.store 1 (.l 1) (.k (.bool true)), none)] [] [])
       .skip))
      (.seq (.region [(.build [.str [], .bool false, .bool false, .bool false, .bool false, .bool false, .bool false, .bool false, .bool false, .int .u8 0, .int .i64 0, .int .i64 0, .int .i64 0, .list true [], .int .i64 0, .list true [], .bool false] [], none),
        (.store 17 (.r 4) (.l 0), none),
        (.move (.k (.int .i64 23)), none)] [(5, 2)] [])
      .ret)))))))))))
  (.seq (.region [(.load (some 17) (.r 2), none),
    (.store 17 (.r 4) (.l 0), none),
    (.move (.k (.int .i64 0)), none)] [(5, 2)] [])
  .ret))))) }
/- canopy/dispatch.All -/
def c50B0 : C := (.seq (.region [(.bin .lss .other (.r 79) (.r 78), none)] [(80, 0)] [])
  (.seq (.cond (.r 80) .skip
   (.exit 2))
  (.seq (.block 3 (.seq (.region [(.iaddr 1 (.r 77) (.r 79), none),
    (.load none (.l 0), none),
    (.move (.l 1), none)] [(25, 2)] [])
  (.region [(.load (some 17) (.r 15), none),
    (.move (.r 25), none),
    (.call 48 [(.l 0), (.l 1)], none),
    (.move (.l 2), none),
    (.extract (.l 3) 0, none),
    (.extract (.l 3) 1, none),
    (.store 17 (.r 15) (.l 4), none)] [] [])))
  (.region [(.bin .add .other (.r 79) (.k (.int .i64 1)), none),
    (.move (.l 0), none)] [(79, 1)] []))))
def c50B1 : C := (.seq (.region [(.bin .lss .other (.r 96) (.r 95), none)] [(97, 0)] [])
  (.seq (.cond (.r 97) .skip
   (.exit 4))
  (.seq (.block 5 (.seq (.region [(.iaddr 1 (.r 94) (.r 96), none),
    (.load none (.l 0), none),
    (.move (.l 1), none)] [(27, 2)] [])
  (.region [(.load (some 2) (.r 5), none),
    (.move (.r 27), none),
    (.call 34 [(.l 0), (.l 1)], none),
    (.move (.l 2), none),
    (.extract (.l 3) 0, none),
    (.extract (.l 3) 1, none),
    (.extract (.l 3) 2, none),
    (.store 2 (.r 5) (.l 4), none)] [] [])))
  (.region [(.bin .add .other (.r 96) (.k (.int .i64 1)), none),
    (.move (.l 0), none)] [(96, 1)] []))))
def c50B2 : C := (.block 1 (.seq (.region [(.load (some 2) (.r 5), none),
    (.load (some 17) (.r 15), none),
    (.call 46 [(.l 0), (.l 1)], none),
    (.move (.l 2), none),
    (.extract (.l 3) 0, none),
    (.extract (.l 3) 1, none),
    (.extract (.l 3) 2, none),
    (.extract (.l 3) 3, none),
    (.extract (.l 3) 4, none),
    (.alloc (.agg [.str [], .bool false, .bool false, .bool false, .bool false, .bool false, .bool false, .bool false, .bool false, .int .u8 0, .int .i64 0, .int .i64 0, .int .i64 0, .list true [], .int .i64 0, .list true [], .bool false]), none),
    (.alloc (.agg [.list true [], .int .i64 0]), none),
    (.alloc (.agg [.int .i64 0, .int .i64 0, .int .i64 0]), none),
    (.store 17 (.l 9) (.l 4), none),
    (.store 2 (.l 10) (.l 5), none),
    (.store 3 (.l 11) (.l 6), none),
    (.move (.l 7), none),
    (.move (.l 8), none)] [(18, 9), (19, 10), (20, 11), (21, 15)] [])
  (.seq (.region [(.load (some 17) (.r 18), none),
    (.load (some 2) (.r 19), none),
    (.store 17 (.r 15) (.l 0), none),
    (.store 2 (.r 5) (.l 1), none)] [] [(1, 2)])
  (.seq (.seq (.region [(.move (.r 21), none),
    (.un .not (.l 0), none)] [(63, 1)] [])
  (.cond (.r 63) (.exit 0)
   .skip))
  (.seq (.region [(.move (.r 17), none),
    (.load (some 3) (.r 20), none),
    (.bslice 1 (.agg [.int .i64 0, .int .i64 0, .int .i64 0]) [(0, (.l 1))], none),
    (.app 3 24 (.l 0) (.l 2), none),
    (.move (.l 3), none)] [(17, 4)] [])
  (.seq (.region [(.move (.r 4), none),
    (.mkFunc 84 [] [(.r 20)], none),
    (.call 83 [(.l 0), (.l 1)], none),
    (.move (.l 2), none)] [(23, 3)] [])
  (.seq (.seq (.region [(.move (.r 23), none),
    (.bin .lss .other (.l 0) (.k (.int .i64 0)), none)] [(72, 1)] [])
  (.cond (.r 72) (.exit 1)
   .skip))
  (.seq (.seq (.region [(.move (.r 4), none),
    (.move (.r 23), none),
    (.iaddr 3 (.l 0) (.l 1), none),
    (.faddr 1 (.l 2), none),
    (.load none (.l 3), none),
    (.len .sl (.l 4), none),
    (.move (.k (.int .i64 0)), none)] [(77, 4), (78, 5), (79, 6)] [])
  (.block 2 (.loop c50B0)))
  (.seq (.region [(.move (.r 4), none),
    (.move (.r 23), none),
    (.iaddr 3 (.l 0) (.l 1), none),
    (.faddr 2 (.l 2), none),
    (.load none (.l 3), none),
    (.len .sl (.l 4), none),
    (.move (.k (.int .i64 0)), none)] [(94, 4), (95, 5), (96, 6)] [])
  (.block 4 (.loop c50B1)))))))))))
def c50 : AFn := { results := [.reg 10, .cell 11 (some 2), .cell 12 (some 13), .reg 13, .reg 14], body := (.seq (.region [(.box (.r 0), none),
    (.box (.r 2), none),
    (.move (.k (.list true [])), none),
    (.alloc (.agg [.list true [], .int .i64 0]), none),
    (.alloc (.agg [.str [], .bool false, .bool false, .bool false, .bool false, .bool false, .bool false, .bool false, .bool false, .int .u8 0, .int .i64 0, .int .i64 0, .int .i64 0]), none),
    (.move (.k (.bool false)), none),
    (.move (.k (.int .i64 0)), none)] [(5, 0), (7, 1), (10, 2), (11, 3), (12, 4), (13, 5), (14, 6)] [])
  (.seq (.region [(.move (.r 1), none),
    (.load (some 13) (.r 7), none),
    (.move (.r 3), none),
    (.call 36 [(.l 0), (.l 1), (.l 2)], none),
    (.move (.l 3), none),
    (.extract (.l 4) 0, none),
    (.extract (.l 4) 1, none),
    (.alloc (.agg [.str [], .bool false, .bool false, .bool false, .bool false, .bool false, .bool false, .bool false, .bool false, .int .u8 0, .int .i64 0, .int .i64 0, .int .i64 0, .list true [], .int .i64 0, .list true [], .bool false]), none),
    (.store 17 (.l 7) (.l 5), none),
    (.move (.l 6), none)] [(15, 7), (16, 9)] [])
  (.seq (.seq (.region [(.move (.r 16), none),
    (.bin .eql .other (.l 0) (.k (.int .i64 0)), none)] [(39, 1)] [])
  (.cond (.r 39) (.region [(.load (some 2) (.r 5), none),
     (.call 21 [(.l 0)], none),
     (.move (.l 1), none)] [(16, 2)] [])
   .skip))
  (.seq (.seq (.region [(.move (.r 16), none),
    (.bin .eql .other (.l 0) (.k (.int .i64 0)), none)] [(43, 1)] [])
  (.cond (.r 43) (.region [(.move (.r 4), none),
     (.call 82 [(.l 0)], none),
     (.move (.l 1), none)] [(16, 2)] [])
   .skip))
  (.seq (.seq (.region [(.move (.r 16), none),
    (.bin .neq .other (.l 0) (.k (.int .i64 0)), none)] [(47, 1)] [])
  (.cond (.r 47) (.seq (.region [(.build [.list true [], .int .i64 0] [], none),
     (.build [.str [], .bool false, .bool false, .bool false, .bool false, .bool false, .bool false, .bool false, .bool false, .int .u8 0, .int .i64 0, .int .i64 0, .int .i64 0] [], none),
     (.move (.r 16), none),
     (.move (.k (.list true [])), none),
     (.store 2 (.r 11) (.l 0), none),
     (.store 13 (.r 12) (.l 1), none),
     (.move (.k (.bool false)), none),
     (.move (.l 2), none)] [(10, 3), (13, 6), (14, 7)] [])
   .ret)
   .skip))
  (.seq (.region [(.move (.k (.list true [])), none)] [(17, 0)] [])
  (.seq (.block 0 (.loop c50B2))
  (.seq (.region [(.load (some 17) (.r 15), none),
    (.call 38 [(.l 0)], none),
    (.move (.l 1), none),
    (.extract (.l 2) 0, none),
    (.extract (.l 2) 1, none),
    (.extract (.l 2) 2, none),
    (.alloc (.agg [.str [], .bool false, .bool false, .bool false, .bool false, .bool false, .bool false, .bool false, .bool false, .int .u8 0, .int .i64 0, .int .i64 0, .int .i64 0]), none),
    (.store 13 (.l 6) (.l 3), none),
    (.move (.l 4), none),
    (.move (.l 5), none)] [(28, 6), (29, 8)] [])
  (.seq (.region [(.move (.r 17), none),
    (.load (some 2) (.r 5), none),
    (.load (some 13) (.r 28), none),
    (.move (.r 29), none),
    (.move (.l 0), none),
    (.store 2 (.r 11) (.l 1), none),
    (.store 13 (.r 12) (.l 2), none),
    (.move (.l 3), none),
    (.move (.k (.int .i64 0)), none)] [(10, 4), (13, 7), (14, 8)] [(2, 5)])
  .ret))))))))) }
/- canopy/canopyref22.All -/
def c51B0 : C := (.block 1 (.seq (.region [(.load (some 2) (.r 5), none),
    (.load (some 17) (.r 15), none),
    (.call 47 [(.l 0), (.l 1)], none),
    (.move (.l 2), none),
    (.extract (.l 3) 0, none),
    (.extract (.l 3) 1, none),
    (.extract (.l 3) 2, none),
    (.extract (.l 3) 3, none),
    (.extract (.l 3) 4, none),
    (.alloc (.agg [.str [], .bool false, .bool false, .bool false, .bool false, .bool false, .bool false, .bool false, .bool false, .int .u8 0, .int .i64 0, .int .i64 0, .int .i64 0, .list true [], .int .i64 0, .list true [], .bool false]), none),
    (.alloc (.agg [.list true [], .int .i64 0]), none),
    (.alloc (.agg [.int .i64 0, .int .i64 0, .int .i64 0]), none),
    (.store 17 (.l 9) (.l 4), none),
    (.store 2 (.l 10) (.l 5), none),
    (.store 3 (.l 11) (.l 6), none),
    (.move (.l 7), none),
    (.move (.l 8), none)] [(18, 9), (19, 10), (20, 11), (21, 15)] [])
  (.seq (.region [(.load (some 2) (.r 19), none),
    (.store 2 (.r 5) (.l 0), none)] [] [])
  (.seq (.region [(.load (some 17) (.r 18), none),
    (.store 17 (.r 15) (.l 0), none)] [] [])
  (.seq (.seq (.region [(.move (.r 21), none),
    (.un .not (.l 0), none)] [(57, 1)] [])
  (.cond (.r 57) (.exit 0)
   .skip))
  (.seq (.region [(.move (.r 17), none),
    (.load (some 3) (.r 20), none),
    (.bslice 1 (.agg [.int .i64 0, .int .i64 0, .int .i64 0]) [(0, (.l 1))], none),
    (.app 3 24 (.l 0) (.l 2), none),
    (.move (.l 3), none)] [(17, 4)] [])
  (.region [(.load (some 2) (.r 5), none),
    (.load (some 17) (.r 15), none),
    (.faddr 1 (.r 20), none),
    (.load none (.l 2), none),
    (.move (.r 4), none),
    (.call 86 [(.l 0), (.l 1), (.l 3), (.l 4)], none),
    (.move (.l 5), none),
    (.extract (.l 6) 0, none),
    (.extract (.l 6) 1, none),
    (.store 2 (.r 5) (.l 7), none),
    (.store 17 (.r 15) (.l 8), none)] [] [])))))))
def c51 : AFn := { results := [.reg 10, .cell 11 (some 2), .cell 12 (some 13), .reg 13, .reg 14], body := (.seq (.region [(.box (.r 0), none),
    (.box (.r 2), none),
    (.move (.k (.list true [])), none),
    (.alloc (.agg [.list true [], .int .i64 0]), none),
    (.alloc (.agg [.str [], .bool false, .bool false, .bool false, .bool false, .bool false, .bool false, .bool false, .bool false, .int .u8 0, .int .i64 0, .int .i64 0, .int .i64 0]), none),
    (.move (.k (.bool false)), none),
    (.move (.k (.int .i64 0)), none)] [(5, 0), (7, 1), (10, 2), (11, 3), (12, 4), (13, 5), (14, 6)] [])
  (.seq (.region [(.move (.r 1), none),
    (.load (some 13) (.r 7), none),
    (.move (.r 3), none),
    (.call 37 [(.l 0), (.l 1), (.l 2)], none),
    (.move (.l 3), none),
    (.extract (.l 4) 0, none),
    (.extract (.l 4) 1, none),
    (.alloc (.agg [.str [], .bool false, .bool false, .bool false, .bool false, .bool false, .bool false, .bool false, .bool false, .int .u8 0, .int .i64 0, .int .i64 0, .int .i64 0, .list true [], .int .i64 0, .list true [], .bool false]), none),
    (.store 17 (.l 7) (.l 5), none),
    (.move (.l 6), none)] [(15, 7), (16, 9)] [])
  (.seq (.seq (.region [(.move (.r 16), none),
    (.bin .eql .other (.l 0) (.k (.int .i64 0)), none)] [(33, 1)] [])
  (.cond (.r 33) (.region [(.load (some 2) (.r 5), none),
     (.call 22 [(.l 0)], none),
     (.move (.l 1), none)] [(16, 2)] [])
   .skip))
  (.seq (.seq (.region [(.move (.r 16), none),
    (.bin .eql .other (.l 0) (.k (.int .i64 0)), none)] [(37, 1)] [])
  (.cond (.r 37) (.region [(.move (.r 4), none),
     (.call 85 [(.l 0)], none),
     (.move (.l 1), none)] [(16, 2)] [])
   .skip))
  (.seq (.seq (.region [(.move (.r 16), none),
    (.bin .neq .other (.l 0) (.k (.int .i64 0)), none)] [(41, 1)] [])
  (.cond (.r 41) (.seq (.region [(.build [.list true [], .int .i64 0] [], none),
     (.build [.str [], .bool false, .bool false, .bool false, .bool false, .bool false, .bool false, .bool false, .bool false, .int .u8 0, .int .i64 0, .int .i64 0, .int .i64 0] [], none),
     (.move (.r 16), none),
     (.move (.k (.list true [])), none),
     (.store 2 (.r 11) (.l 0), none),
     (.store 13 (.r 12) (.l 1), none),
     (.move (.k (.bool false)), none),
     (.move (.l 2), none)] [(10, 3), (13, 6), (14, 7)] [])
   .ret)
   .skip))
  (.seq (.region [(.move (.k (.list true [])), none)] [(17, 0)] [])
  (.seq (.block 0 (.loop c51B0))
  (.seq (.region [(.load (some 17) (.r 15), none),
    (.call 39 [(.l 0)], none),
    (.move (.l 1), none),
    (.extract (.l 2) 0, none),
    (.extract (.l 2) 1, none),
    (.extract (.l 2) 2, none),
    (.store 13 (.r 7) (.l 3), none),
    (.move (.l 4), none),
    (.move (.l 5), none)] [(23, 7)] [])
  (.seq (.region [(.move (.r 17), none),
    (.load (some 2) (.r 5), none),
    (.load (some 13) (.r 7), none),
    (.move (.r 23), none),
    (.move (.l 0), none),
    (.store 2 (.r 11) (.l 1), none),
    (.store 13 (.r 12) (.l 2), none),
    (.move (.l 3), none),
    (.move (.k (.int .i64 0)), none)] [(10, 4), (13, 7), (14, 8)] [(2, 5)])
  .ret))))))))) }
/- canopy/canopyref22.Calls -/
def c52B0 : C := (.seq (.seq (.region [(.move (.r 5), none),
    (.move (.r 0), none),
    (.len .sl (.l 1), none),
    (.bin .lss .other (.l 0) (.l 2), none)] [(14, 3)] [])
  (.cond (.r 14) .skip
   (.exit 0)))
  (.seq (.block 1 (.seq (.region [(.move (.r 0), none),
    (.move (.r 5), none),
    (.iaddr 3 (.l 0) (.l 1), none),
    (.load (some 3) (.l 2), none),
    (.move (.r 1), none),
    (.move (.r 5), none),
    (.iaddr 3 (.l 4) (.l 5), none),
    (.load (some 3) (.l 6), none),
    (.bin .neq (.agg [.int, .int, .int]) (.l 3) (.l 7), none)] [(25, 8)] [])
  (.cond (.r 25) (.seq (.region [(.move (.k (.bool false)), none)] [(4, 0)] [])
   .ret)
   .skip)))
  (.region [(.move (.r 5), none),
    (.bin .add .other (.l 0) (.k (.int .i64 1)), none),
    (.move (.l 1), none)] [(5, 2)] [])))
def c52 : AFn := { results := [.reg 4], body := (.seq (.region [(.move (.k (.bool false)), none)] [(4, 0)] [])
  (.seq (.seq (.region [(.move (.r 0), none),
    (.len .sl (.l 0), none),
    (.move (.r 1), none),
    (.len .sl (.l 2), none),
    (.bin .neq .other (.l 1) (.l 3), none)] [(10, 4)] [])
  (.cond (.r 10) (.seq (.region [(.move (.k (.bool false)), none)] [(4, 0)] [])
   .ret)
   .skip))
  (.seq (.seq (.region [(.move (.k (.int .i64 0)), none)] [(5, 0)] [])
  (.block 0 (.loop c52B0)))
  (.seq (.region [(.move (.k (.bool true)), none)] [(4, 0)] [])
  .ret)))) }
/- canopy/canopylaw22.distinct -/
def c53B0 : C := (.seq (.seq (.region [(.move (.r 4), none),
    (.move (.r 3), none),
    (.bin .lss .other (.l 0) (.l 1), none)] [(13, 2)] [])
  (.cond (.r 13) .skip
   (.exit 2)))
  (.seq (.block 3 (.seq (.region [(.move (.r 0), none),
    (.move (.r 4), none),
    (.iaddr 6 (.l 0) (.l 1), none),
    (.faddr 0 (.l 2), none),
    (.load none (.l 3), none),
    (.move (.r 0), none),
    (.move (.r 3), none),
    (.iaddr 6 (.l 5) (.l 6), none),
    (.faddr 0 (.l 7), none),
    (.load none (.l 8), none),
    (.bin .eql .other (.l 4) (.l 9), none)] [(26, 10)] [])
  (.cond (.r 26) (.seq (.region [(.move (.k (.bool false)), none)] [(2, 0)] [])
   .ret)
   .skip)))
  (.region [(.move (.r 4), none),
    (.bin .add .other (.l 0) (.k (.int .i64 1)), none),
    (.move (.l 1), none)] [(4, 2)] [])))
def c53B1 : C := (.seq (.seq (.region [(.move (.r 3), none),
    (.move (.r 0), none),
    (.len .sl (.l 1), none),
    (.bin .lss .other (.l 0) (.l 2), none)] [(8, 3)] [])
  (.cond (.r 8) .skip
   (.exit 0)))
  (.seq (.block 1 (.seq (.region [(.move (.k (.int .i64 0)), none)] [(4, 0)] [])
  (.block 2 (.loop c53B0))))
  (.region [(.move (.r 3), none),
    (.bin .add .other (.l 0) (.k (.int .i64 1)), none),
    (.move (.l 1), none)] [(3, 2)] [])))
def c53 : AFn := { results := [.reg 2], body := (.seq (.region [(.move (.k (.bool false)), none)] [(2, 0)] [])
  (.seq (.seq (.region [(.move (.k (.int .i64 0)), none)] [(3, 0)] [])
  (.block 0 (.loop c53B1)))
  (.seq (.region [(.move (.k (.bool true)), none)] [(2, 0)] [])
  .ret))) }
/- canopy/canopylaw22.by -/
def c54B0 : C := (.seq (.seq (.region [(.move (.r 6), none),
    (.faddr 0 (.r 2), none),
    (.load none (.l 1), none),
    (.len .sl (.l 2), none),
    (.bin .lss .other (.l 0) (.l 3), none)] [(11, 4)] [])
  (.cond (.r 11) .skip
   (.exit 0)))
  (.seq (.block 1 (.seq (.region [(.faddr 0 (.r 2), none),
    (.load none (.l 0), none),
    (.move (.r 6), none),
    (.iaddr 8 (.l 1) (.l 2), none),
    (.faddr 0 (.l 3), none),
    (.load none (.l 4), none),
    (.move (.r 1), none),
    (.bin .eql .other (.l 5) (.l 6), none)] [(21, 7)] [])
  (.cond (.r 21) (.seq (.region [(.faddr 0 (.r 2), none),
     (.load none (.l 0), none),
     (.move (.r 6), none),
     (.iaddr 8 (.l 1) (.l 2), none),
     (.load (some 8) (.l 3), none),
     (.store 8 (.r 4) (.l 4), none),
     (.move (.k (.bool true)), none)] [(5, 6)] [])
   .ret)
   .skip)))
  (.region [(.move (.r 6), none),
    (.bin .add .other (.l 0) (.k (.int .i64 1)), none),
    (.move (.l 1), none)] [(6, 2)] [])))
def c54 : AFn := { results := [.cell 4 (some 8), .reg 5], body := (.seq (.region [(.box (.r 0), none),
    (.alloc (.agg [.int .i64 0, .int .i64 0, .str [], .int .i64 0, .bool false, .bool false, .int .u8 0, .int .i64 0]), none),
    (.move (.k (.bool false)), none)] [(2, 0), (4, 1), (5, 2)] [])
  (.seq (.seq (.region [(.move (.k (.int .i64 0)), none)] [(6, 0)] [])
  (.block 0 (.loop c54B0)))
  (.seq (.region [(.build [.int .i64 0, .int .i64 0, .str [], .int .i64 0, .bool false, .bool false, .int .u8 0, .int .i64 0] [], none),
    (.store 8 (.r 4) (.l 0), none),
    (.move (.k (.bool false)), none)] [(5, 2)] [])
  .ret))) }
/- canopy/canopylaw22.stops -/
def c55B0 : C := (.seq (.seq (.region [(.move (.r 8), none),
    (.move (.r 0), none),
    (.move (.r 7), none),
    (.iaddr 3 (.l 1) (.l 2), none),
    (.faddr 1 (.l 3), none),
    (.load none (.l 4), none),
    (.len .sl (.l 5), none),
    (.bin .lss .other (.l 0) (.l 6), none)] [(29, 7)] [])
  (.cond (.r 29) .skip
   (.exit 2)))
  (.seq (.block 3 (.seq (.region [(.move (.r 0), none),
    (.move (.r 7), none),
    (.iaddr 3 (.l 0) (.l 1), none),
    (.faddr 1 (.l 2), none),
    (.load none (.l 3), none),
    (.move (.r 8), none),
    (.iaddr 1 (.l 4) (.l 5), none),
    (.load none (.l 6), none),
    (.move (.r 2), none),
    (.bin .eql .other (.l 7) (.l 8), none)] [(41, 9)] [])
  (.cond (.r 41) (.seq (.region [(.move (.k (.bool true)), none)] [(6, 0)] [])
   .ret)
   .skip)))
  (.region [(.move (.r 8), none),
    (.bin .add .other (.l 0) (.k (.int .i64 1)), none),
    (.move (.l 1), none)] [(8, 2)] [])))
def c55B1 : C := (.seq (.seq (.region [(.move (.r 7), none),
    (.move (.r 0), none),
    (.len .sl (.l 1), none),
    (.bin .lss .other (.l 0) (.l 2), none)] [(12, 3)] [])
  (.cond (.r 12) .skip
   (.exit 0)))
  (.seq (.block 1 (.seq (.seq (.region [(.move (.r 0), none),
    (.move (.r 7), none),
    (.iaddr 3 (.l 0) (.l 1), none),
    (.faddr 0 (.l 2), none),
    (.load none (.l 3), none),
    (.move (.r 1), none),
    (.bin .neq .other (.l 4) (.l 5), none)] [(21, 6)] [])
  (.cond (.r 21) (.exit 1)
   .skip))
  (.seq (.seq (.region [(.move (.k (.int .i64 0)), none)] [(8, 0)] [])
  (.block 2 (.loop c55B0)))
  (.seq (.region [(.move (.k (.bool false)), none)] [(6, 0)] [])
  .ret))))
  (.region [(.move (.r 7), none),
    (.bin .add .other (.l 0) (.k (.int .i64 1)), none),
    (.move (.l 1), none)] [(7, 2)] [])))
def c55 : AFn := { results := [.reg 6], body := (.seq (.region [(.move (.k (.bool false)), none)] [(6, 0)] [])
  (.seq (.seq (.region [(.move (.k (.int .i64 0)), none)] [(7, 0)] [])
  (.block 0 (.loop c55B1)))
  (.seq (.region [(.move (.k (.bool false)), none)] [(6, 0)] [])
  .ret))) }
/- canopy/canopylaw22.gone -/
def c56B0 : C := (.seq (.seq (.region [(.move (.r 8), none),
    (.move (.r 0), none),
    (.move (.r 7), none),
    (.iaddr 3 (.l 1) (.l 2), none),
    (.faddr 2 (.l 3), none),
    (.load none (.l 4), none),
    (.len .sl (.l 5), none),
    (.bin .lss .other (.l 0) (.l 6), none)] [(29, 7)] [])
  (.cond (.r 29) .skip
   (.exit 2)))
  (.seq (.block 3 (.seq (.region [(.move (.r 0), none),
    (.move (.r 7), none),
    (.iaddr 3 (.l 0) (.l 1), none),
    (.faddr 2 (.l 2), none),
    (.load none (.l 3), none),
    (.move (.r 8), none),
    (.iaddr 1 (.l 4) (.l 5), none),
    (.load none (.l 6), none),
    (.move (.r 2), none),
    (.bin .eql .other (.l 7) (.l 8), none)] [(41, 9)] [])
  (.cond (.r 41) (.seq (.region [(.move (.k (.bool true)), none)] [(6, 0)] [])
   .ret)
   .skip)))
  (.region [(.move (.r 8), none),
    (.bin .add .other (.l 0) (.k (.int .i64 1)), none),
    (.move (.l 1), none)] [(8, 2)] [])))
def c56B1 : C := (.seq (.seq (.region [(.move (.r 7), none),
    (.move (.r 0), none),
    (.len .sl (.l 1), none),
    (.bin .lss .other (.l 0) (.l 2), none)] [(12, 3)] [])
  (.cond (.r 12) .skip
   (.exit 0)))
  (.seq (.block 1 (.seq (.seq (.region [(.move (.r 0), none),
    (.move (.r 7), none),
    (.iaddr 3 (.l 0) (.l 1), none),
    (.faddr 0 (.l 2), none),
    (.load none (.l 3), none),
    (.move (.r 1), none),
    (.bin .neq .other (.l 4) (.l 5), none)] [(21, 6)] [])
  (.cond (.r 21) (.exit 1)
   .skip))
  (.seq (.seq (.region [(.move (.k (.int .i64 0)), none)] [(8, 0)] [])
  (.block 2 (.loop c56B0)))
  (.seq (.region [(.move (.k (.bool false)), none)] [(6, 0)] [])
  .ret))))
  (.region [(.move (.r 7), none),
    (.bin .add .other (.l 0) (.k (.int .i64 1)), none),
    (.move (.l 1), none)] [(7, 2)] [])))
def c56 : AFn := { results := [.reg 6], body := (.seq (.region [(.move (.k (.bool false)), none)] [(6, 0)] [])
  (.seq (.seq (.region [(.move (.k (.int .i64 0)), none)] [(7, 0)] [])
  (.block 0 (.loop c56B1)))
  (.seq (.region [(.move (.k (.bool false)), none)] [(6, 0)] [])
  .ret))) }
/- canopy/canopyref22.Right -/
def c57 : AFn := { results := [.reg 2], body := (.seq (.region [(.box (.r 0), none),
    (.move (.k (.bool false)), none)] [(1, 0), (2, 1)] [])
  (.seq (.region [(.faddr 13 (.r 1), none),
    (.load none (.l 0), none),
    (.len .sl (.l 1), none),
    (.bin .leq .other (.l 2) (.k (.int .i64 4096)), none),
    (.move (.l 3), none),
    (.faddr 0 (.r 1), (some (4, true))),
    (.faddr 8 (.l 5), (some (4, true))),
    (.load none (.l 6), (some (4, true))),
    (.pick (.l 4) (.l 7) (.k (.bool false)), none),
    (.move (.l 8), none),
    (.faddr 14 (.r 1), (some (9, true))),
    (.load none (.l 10), (some (9, true))),
    (.bin .geq .other (.l 11) (.k (.int .i64 0)), (some (9, true))),
    (.pick (.l 9) (.l 12) (.k (.bool false)), none),
    (.move (.l 13), none),
    (.faddr 14 (.r 1), (some (14, true))),
    (.load none (.l 15), (some (14, true))),
    (.faddr 13 (.r 1), (some (14, true))),
    (.load none (.l 17), (some (14, true))),
    (.len .sl (.l 18), (some (14, true))),
    (.bin .mul .other (.k (.int .i64 2)) (.l 19), (some (14, true))),
    (.bin .leq .other (.l 16) (.l 20), (some (14, true))),
    (.pick (.l 14) (.l 21) (.k (.bool false)), none),
    (.move (.l 22), none),
    (.faddr 14 (.r 1), (some (23, true))),
    (.load none (.l 24), (some (23, true))),
    (.bin .gtr .other (.l 25) (.k (.int .i64 0)), (some (23, true))),
    (.move (.l 26), (some (23, true))),
    (.faddr 15 (.r 1), (some (27, false))),
    (.load none (.l 28), (some (27, false))),
    (.len .sl (.l 29), (some (27, false))),
    (.bin .eql .other (.l 30) (.k (.int .i64 0)), (some (27, false))),
    (.pick (.l 27) (.k (.bool true)) (.l 31), (some (23, true))),
    (.pick (.l 23) (.l 32) (.k (.bool false)), none),
    (.move (.l 33), none),
    (.faddr 15 (.r 1), (some (34, true))),
    (.load none (.l 35), (some (34, true))),
    (.len .sl (.l 36), (some (34, true))),
    (.bin .leq .other (.l 37) (.k (.int .i64 1024)), (some (34, true))),
    (.pick (.l 34) (.l 38) (.k (.bool false)), none),
    (.move (.l 39), none)] [(2, 40)] [(4, 4), (9, 9), (14, 14), (23, 23), (27, 27), (34, 34)])
  .ret)) }
/- canopy/listen.placeOf -/
def c59 : AFn := { results := [.cell 2 (some 4)], body := (.seq (.region [(.box (.r 0), none),
    (.alloc (.agg [.int .i64 0, .str [], .int .i64 0, .bool false]), none)] [(1, 0), (2, 1)] [])
  (.seq (.region [(.faddr 1 (.r 1), none),
    (.load none (.l 0), none),
    (.faddr 2 (.r 1), none),
    (.load none (.l 2), none),
    (.faddr 3 (.r 1), none),
    (.load none (.l 4), none),
    (.faddr 4 (.r 1), none),
    (.load none (.l 6), none),
    (.build [.int .i64 0, .str [], .int .i64 0, .bool false] [(0, 1, (.l 1)), (1, 1, (.l 3)), (2, 1, (.l 5)), (3, 1, (.l 7))], none),
    (.store 4 (.r 2) (.l 8), none)] [] [])
  .ret)) }
/- canopy/listen.kept -/
def c60B0 : C := (.seq (.region [(.bin .lss .other (.r 14) (.r 13), none)] [(15, 0)] [])
  (.seq (.cond (.r 15) .skip
   (.exit 0))
  (.seq (.block 1 (.seq (.region [(.iaddr 8 (.r 12) (.r 14), none),
    (.load (some 8) (.l 0), none),
    (.alloc (.agg [.int .i64 0, .int .i64 0, .str [], .int .i64 0, .bool false, .bool false, .int .u8 0, .int .i64 0]), none),
    (.store 8 (.l 2) (.l 1), none)] [(7, 2)] [])
  (.seq (.region [(.move (.r 1), none),
    (.load (some 8) (.r 7), none),
    (.callv (.l 0) [(.l 1)], none)] [(20, 2)] [])
  (.cond (.r 20) (.region [(.faddr 0 (.r 5), none),
     (.load none (.l 0), none),
     (.load (some 8) (.r 7), none),
     (.bslice 1 (.agg [.int .i64 0, .int .i64 0, .str [], .int .i64 0, .bool false, .bool false, .int .u8 0, .int .i64 0]) [(0, (.l 2))], none),
     (.app 8 56 (.l 1) (.l 3), none),
     (.faddr 0 (.r 5), none),
     (.store 1 (.l 5) (.l 4), none)] [] [])
   .skip))))
  (.region [(.bin .add .other (.r 14) (.k (.int .i64 1)), none),
    (.move (.l 0), none)] [(14, 1)] []))))
def c60 : AFn := { results := [.cell 4 (some 2)], body := (.seq (.region [(.box (.r 0), none),
    (.alloc (.agg [.list true [], .int .i64 0]), none)] [(2, 0), (4, 1)] [])
  (.seq (.region [(.load (some 2) (.r 2), none),
    (.call 65 [(.l 0)], none),
    (.build [.list true [], .int .i64 0] [(1, 1, (.l 1))], none),
    (.alloc (.agg [.list true [], .int .i64 0]), none),
    (.store 2 (.l 3) (.l 2), none)] [(5, 3)] [])
  (.seq (.seq (.region [(.faddr 0 (.r 2), none),
    (.load none (.l 0), none),
    (.len .sl (.l 1), none),
    (.move (.k (.int .i64 0)), none)] [(12, 1), (13, 2), (14, 3)] [])
  (.block 0 (.loop c60B0)))
  (.seq (.region [(.load (some 2) (.r 5), none),
    (.store 2 (.r 4) (.l 0), none)] [] [])
  .ret)))) }
/- canopy/canopyref21.Copy -/
def c63 : AFn := { results := [.cell 2 (some 2)], body := (.seq (.region [(.box (.r 0), none),
    (.alloc (.agg [.list true [], .int .i64 0]), none)] [(1, 0), (2, 1)] [])
  (.seq (.region [(.bslice 0 (.agg [.int .i64 0, .int .i64 0, .str [], .int .i64 0, .bool false, .bool false, .int .u8 0, .int .i64 0]) [], none),
    (.faddr 0 (.r 1), none),
    (.load none (.l 1), none),
    (.app 8 56 (.l 0) (.l 2), none),
    (.faddr 1 (.r 1), none),
    (.load none (.l 4), none),
    (.mx [(.l 5), (.k (.int .i64 1))], none),
    (.build [.list true [], .int .i64 0] [(0, 1, (.l 3)), (1, 1, (.l 6))], none),
    (.store 2 (.r 2) (.l 7), none)] [] [(0, 2), (0, 5), (3, 5)])
  .ret)) }
/- canopy/canopyref21.Find -/
def c64B0 : C := (.seq (.region [(.bin .lss .other (.r 9) (.r 8), none)] [(10, 0)] [])
  (.seq (.cond (.r 10) .skip
   (.exit 0))
  (.seq (.block 1 (.seq (.region [(.move (.r 9), none),
    (.iaddr 8 (.r 7) (.r 9), none),
    (.load (some 8) (.l 1), none),
    (.alloc (.agg [.int .i64 0, .int .i64 0, .str [], .int .i64 0, .bool false, .bool false, .int .u8 0, .int .i64 0]), none),
    (.move (.l 0), none),
    (.store 8 (.l 3) (.l 2), none)] [(6, 3), (5, 4)] [])
  (.seq (.region [(.load (some 8) (.r 3), none),
    (.load (some 8) (.r 6), none),
    (.call 88 [(.l 0), (.l 1)], none)] [(16, 2)] [])
  (.cond (.r 16) (.seq (.region [(.move (.r 5), none),
     (.move (.l 0), none)] [(4, 1)] [])
   .ret)
   .skip))))
  (.region [(.bin .add .other (.r 9) (.k (.int .i64 1)), none),
    (.move (.l 0), none)] [(9, 1)] []))))
def c64 : AFn := { results := [.reg 4], body := (.seq (.region [(.box (.r 1), none),
    (.move (.k (.int .i64 0)), none)] [(3, 0), (4, 1)] [])
  (.seq (.seq (.region [(.move (.r 0), none),
    (.len .sl (.l 0), none),
    (.move (.k (.int .i64 0)), none)] [(7, 0), (8, 1), (9, 2)] [])
  (.block 0 (.loop c64B0)))
  (.seq (.region [(.move (.k (.int .i64 (-1))), none)] [(4, 0)] [])
  .ret))) }
/- canopy/listen.next -/
def c65 : AFn := { results := [.reg 2], body := (.seq (.region [(.box (.r 0), none),
    (.move (.k (.int .i64 0)), none)] [(1, 0), (2, 1)] [])
  (.seq (.seq (.region [(.faddr 1 (.r 1), none),
    (.load none (.l 0), none),
    (.bin .eql .other (.l 1) (.k (.int .i64 0)), none),
    (.move (.l 2), none),
    (.faddr 0 (.r 1), (some (3, true))),
    (.load none (.l 4), (some (3, true))),
    (.len .sl (.l 5), (some (3, true))),
    (.bin .eql .other (.l 6) (.k (.int .i64 0)), (some (3, true))),
    (.pick (.l 3) (.l 7) (.k (.bool false)), none)] [(11, 8)] [(3, 3)])
  (.cond (.r 11) (.seq (.region [(.move (.k (.int .i64 1)), none)] [(2, 0)] [])
   .ret)
   .skip))
  (.seq (.region [(.faddr 1 (.r 1), none),
    (.load none (.l 0), none),
    (.move (.l 1), none)] [(2, 2)] [])
  .ret))) }
/- canopy/listen.right -/
def c66 : AFn := { results := [.reg 6], body := (.seq (.region [(.box (.r 0), none),
    (.move (.k (.bool false)), none)] [(3, 0), (6, 1)] [])
  (.seq (.region [(.faddr 0 (.r 3), none),
    (.load none (.l 0), none),
    (.move (.r 1), none),
    (.bin .gtr .other (.l 1) (.l 2), none),
    (.move (.l 3), none),
    (.faddr 0 (.r 3), (some (4, true))),
    (.load none (.l 5), (some (4, true))),
    (.move (.r 2), (some (4, true))),
    (.bin .lss .other (.l 6) (.l 7), (some (4, true))),
    (.pick (.l 4) (.l 8) (.k (.bool false)), none),
    (.move (.l 9), none),
    (.faddr 3 (.r 3), (some (10, true))),
    (.load none (.l 11), (some (10, true))),
    (.bin .neq .other (.l 12) (.k (.int .i64 0)), (some (10, true))),
    (.pick (.l 10) (.l 13) (.k (.bool false)), none),
    (.move (.l 14), none),
    (.faddr 1 (.r 3), (some (15, true))),
    (.load none (.l 16), (some (15, true))),
    (.bin .geq .other (.l 17) (.k (.int .i64 1)), (some (15, true))),
    (.pick (.l 15) (.l 18) (.k (.bool false)), none),
    (.move (.l 19), none),
    (.faddr 2 (.r 3), (some (20, true))),
    (.load none (.l 21), (some (20, true))),
    (.len .str (.l 22), (some (20, true))),
    (.bin .leq .other (.l 23) (.k (.int .i64 1024)), (some (20, true))),
    (.pick (.l 20) (.l 24) (.k (.bool false)), none),
    (.move (.l 25), none),
    (.faddr 6 (.r 3), (some (26, true))),
    (.load none (.l 27), (some (26, true))),
    (.bin .eql .other (.l 28) (.k (.int .u8 1)), (some (26, true))),
    (.move (.l 29), (some (26, true))),
    (.faddr 6 (.r 3), (some (30, false))),
    (.load none (.l 31), (some (30, false))),
    (.bin .eql .other (.l 32) (.k (.int .u8 2)), (some (30, false))),
    (.pick (.l 30) (.k (.bool true)) (.l 33), (some (26, true))),
    (.pick (.l 26) (.l 34) (.k (.bool false)), none),
    (.move (.l 35), none)] [(6, 36)] [(4, 4), (10, 10), (15, 15), (20, 20), (26, 26), (30, 30)])
  .ret)) }
/- canopy/canopyref21.without -/
def c70B0 : C := (.seq (.region [(.bin .lss .other (.r 15) (.r 14), none)] [(16, 0)] [])
  (.seq (.cond (.r 16) .skip
   (.exit 0))
  (.seq (.block 1 (.seq (.region [(.iaddr 8 (.r 13) (.r 15), none),
    (.load (some 8) (.l 0), none),
    (.alloc (.agg [.int .i64 0, .int .i64 0, .str [], .int .i64 0, .bool false, .bool false, .int .u8 0, .int .i64 0]), none),
    (.store 8 (.l 2) (.l 1), none)] [(7, 2)] [])
  (.seq (.region [(.faddr 0 (.r 7), none),
    (.load none (.l 0), none),
    (.move (.r 1), none),
    (.bin .neq .other (.l 1) (.l 2), none)] [(22, 3)] [])
  (.cond (.r 22) (.region [(.faddr 0 (.r 5), none),
     (.load none (.l 0), none),
     (.load (some 8) (.r 7), none),
     (.bslice 1 (.agg [.int .i64 0, .int .i64 0, .str [], .int .i64 0, .bool false, .bool false, .int .u8 0, .int .i64 0]) [(0, (.l 2))], none),
     (.app 8 56 (.l 1) (.l 3), none),
     (.faddr 0 (.r 5), none),
     (.store 1 (.l 5) (.l 4), none)] [] [])
   .skip))))
  (.region [(.bin .add .other (.r 15) (.k (.int .i64 1)), none),
    (.move (.l 0), none)] [(15, 1)] []))))
def c70 : AFn := { results := [.cell 4 (some 2)], body := (.seq (.region [(.box (.r 0), none),
    (.alloc (.agg [.list true [], .int .i64 0]), none)] [(2, 0), (4, 1)] [])
  (.seq (.region [(.faddr 1 (.r 2), none),
    (.load none (.l 0), none),
    (.mx [(.l 1), (.k (.int .i64 1))], none),
    (.build [.list true [], .int .i64 0] [(1, 1, (.l 2))], none),
    (.alloc (.agg [.list true [], .int .i64 0]), none),
    (.store 2 (.l 4) (.l 3), none)] [(5, 4)] [])
  (.seq (.seq (.region [(.faddr 0 (.r 2), none),
    (.load none (.l 0), none),
    (.len .sl (.l 1), none),
    (.move (.k (.int .i64 0)), none)] [(13, 1), (14, 2), (15, 3)] [])
  (.block 0 (.loop c70B0)))
  (.seq (.region [(.load (some 2) (.r 5), none),
    (.store 2 (.r 4) (.l 0), none)] [] [])
  .ret)))) }
/- canopy/listen.Expire$1 -/
def c71 : AFn := { results := [.reg 3], body := (.seq (.region [(.box (.r 0), none),
    (.move (.k (.bool false)), none)] [(2, 0), (3, 1)] [])
  (.seq (.region [(.faddr 0 (.r 2), none),
    (.load none (.l 0), none),
    (.load none (.r 1), none),
    (.bin .neq .other (.l 1) (.l 2), none),
    (.move (.l 3), none)] [(3, 4)] [])
  .ret)) }
/- slices.Clone[[]canopy/api.Step,canopy/api.Step] -/
def c72 : AFn := { results := [.reg 2], body := (.seq (.region [(.move (.k (.list true [])), none)] [(2, 0)] [])
  (.seq (.seq (.region [(.move (.r 0), none),
    (.bin .eql .slice (.l 0) (.k (.list true [])), none)] [(4, 1)] [])
  (.cond (.r 4) (.seq (.region [(.move (.k (.list true [])), none)] [(2, 0)] [])
   .ret)
   .skip))
  (.seq (.region [(.bslice 0 (.agg [.int .i64 0, .bool false, .int .i64 0, .int .i64 0, .bool false, .bool false]) [], none),
    (.move (.r 0), none),
    (.app 6 40 (.l 0) (.l 1), none),
    (.move (.l 2), none)] [(2, 3)] [])
  .ret))) }
/- canopy/dispatch.right -/
def c73 : AFn := { results := [.reg 2], body := (.seq (.region [(.box (.r 0), none),
    (.move (.k (.bool false)), none)] [(1, 0), (2, 1)] [])
  (.seq (.region [(.faddr 13 (.r 1), none),
    (.load none (.l 0), none),
    (.len .sl (.l 1), none),
    (.move (.l 2), none)] [(3, 3)] [])
  (.seq (.region [(.move (.r 3), none),
    (.bin .leq .other (.l 0) (.k (.int .i64 4096)), none),
    (.move (.l 1), none),
    (.faddr 0 (.r 1), (some (2, true))),
    (.faddr 8 (.l 3), (some (2, true))),
    (.load none (.l 4), (some (2, true))),
    (.pick (.l 2) (.l 5) (.k (.bool false)), none),
    (.move (.l 6), none),
    (.faddr 14 (.r 1), (some (7, true))),
    (.load none (.l 8), (some (7, true))),
    (.bin .geq .other (.l 9) (.k (.int .i64 0)), (some (7, true))),
    (.pick (.l 7) (.l 10) (.k (.bool false)), none),
    (.move (.l 11), none),
    (.faddr 14 (.r 1), (some (12, true))),
    (.load none (.l 13), (some (12, true))),
    (.move (.r 3), (some (12, true))),
    (.bin .mul .other (.k (.int .i64 2)) (.l 15), (some (12, true))),
    (.bin .leq .other (.l 14) (.l 16), (some (12, true))),
    (.pick (.l 12) (.l 17) (.k (.bool false)), none),
    (.move (.l 18), none),
    (.faddr 14 (.r 1), (some (19, true))),
    (.load none (.l 20), (some (19, true))),
    (.bin .gtr .other (.l 21) (.k (.int .i64 0)), (some (19, true))),
    (.move (.l 22), (some (19, true))),
    (.faddr 15 (.r 1), (some (23, false))),
    (.load none (.l 24), (some (23, false))),
    (.len .sl (.l 25), (some (23, false))),
    (.bin .eql .other (.l 26) (.k (.int .i64 0)), (some (23, false))),
    (.pick (.l 23) (.k (.bool true)) (.l 27), (some (19, true))),
    (.pick (.l 19) (.l 28) (.k (.bool false)), none),
    (.move (.l 29), none),
    (.faddr 15 (.r 1), (some (30, true))),
    (.load none (.l 31), (some (30, true))),
    (.len .sl (.l 32), (some (30, true))),
    (.bin .leq .other (.l 33) (.k (.int .i64 1024)), (some (30, true))),
    (.pick (.l 30) (.l 34) (.k (.bool false)), none),
    (.move (.l 35), none)] [(2, 36)] [(2, 2), (7, 7), (12, 12), (19, 19), (23, 23), (30, 30)])
  .ret))) }
/- canopy/canopylaw22.small -/
def c74 : AFn := { results := [.cell 0 (some 2), .reg 1], body := (.seq (.region [(.alloc (.agg [.list true [], .int .i64 0]), none),
    (.move (.k (.list true [])), none)] [(0, 0), (1, 1)] [])
  (.seq (.region [(.build [.int .i64 0, .int .i64 0, .str [], .int .i64 0, .bool false, .bool false, .int .u8 0, .int .i64 0] [(0, 1, (.k (.int .i64 1))), (1, 1, (.k (.int .i64 1))), (2, 1, (.k (.str [120]))), (3, 1, (.k (.int .i64 7))), (4, 1, (.k (.bool true))), (6, 1, (.k (.int .u8 2)))], none),
    (.build [.int .i64 0, .int .i64 0, .str [], .int .i64 0, .bool false, .bool false, .int .u8 0, .int .i64 0] [(0, 1, (.k (.int .i64 2))), (1, 1, (.k (.int .i64 3))), (2, 1, (.k (.str [120]))), (3, 1, (.k (.int .i64 8))), (6, 1, (.k (.int .u8 2)))], none),
    (.build [.int .i64 0, .int .i64 0, .str [], .int .i64 0, .bool false, .bool false, .int .u8 0, .int .i64 0] [(0, 1, (.k (.int .i64 3))), (1, 1, (.k (.int .i64 1))), (2, 1, (.k (.str [120]))), (3, 1, (.k (.int .i64 9))), (6, 1, (.k (.int .u8 2)))], none),
    (.bslice 3 (.agg [.int .i64 0, .int .i64 0, .str [], .int .i64 0, .bool false, .bool false, .int .u8 0, .int .i64 0]) [(0, (.l 0)), (1, (.l 1)), (2, (.l 2))], none),
    (.build [.list true [], .int .i64 0] [(0, 1, (.l 3)), (1, 1, (.k (.int .i64 4)))], none),
    (.alloc (.agg [.list true [], .int .i64 0]), none),
    (.store 2 (.l 5) (.l 4), none)] [(2, 5)] [])
  (.seq (.region [(.load (some 2) (.r 2), none),
    (.build [.int .i64 0, .bool false, .int .i64 0, .int .i64 0, .bool false, .bool false] [(0, 1, (.k (.int .i64 3))), (2, 1, (.k (.int .i64 3)))], none),
    (.build [.int .i64 0, .bool false, .int .i64 0, .int .i64 0, .bool false, .bool false] [(0, 1, (.k (.int .i64 2)))], none),
    (.build [.int .i64 0, .bool false, .int .i64 0, .int .i64 0, .bool false, .bool false] [(0, 1, (.k (.int .i64 1)))], none),
    (.bslice 3 (.agg [.int .i64 0, .bool false, .int .i64 0, .int .i64 0, .bool false, .bool false]) [(0, (.l 1)), (1, (.l 2)), (2, (.l 3))], none),
    (.store 2 (.r 0) (.l 0), none),
    (.move (.l 4), none)] [(1, 6)] [])
  .ret))) }
/- canopy/dispatch.own -/
def c75 : AFn := { results := [.cell 2 (some 17)], body := (.seq (.region [(.box (.r 0), none),
    (.alloc (.agg [.str [], .bool false, .bool false, .bool false, .bool false, .bool false, .bool false, .bool false, .bool false, .int .u8 0, .int .i64 0, .int .i64 0, .int .i64 0, .list true [], .int .i64 0, .list true [], .bool false]), none)] [(1, 0), (2, 1)] [])
  (.seq (.region [(.faddr 13 (.r 1), none),
    (.load none (.l 0), none),
    (.call 72 [(.l 1)], none),
    (.faddr 13 (.r 1), none),
    (.store 1 (.l 3) (.l 2), none)] [] [])
  (.seq (.region [(.faddr 15 (.r 1), none),
    (.load none (.l 0), none),
    (.call 89 [(.l 1)], none),
    (.faddr 15 (.r 1), none),
    (.store 1 (.l 3) (.l 2), none)] [] [])
  (.seq (.region [(.load (some 17) (.r 1), none),
    (.store 17 (.r 2) (.l 0), none)] [] [])
  .ret)))) }
/- slices.Clone[[]canopy/api.Listener,canopy/api.Listener] -/
def c76 : AFn := { results := [.reg 2], body := (.seq (.region [(.move (.k (.list true [])), none)] [(2, 0)] [])
  (.seq (.seq (.region [(.move (.r 0), none),
    (.bin .eql .slice (.l 0) (.k (.list true [])), none)] [(4, 1)] [])
  (.cond (.r 4) (.seq (.region [(.move (.k (.list true [])), none)] [(2, 0)] [])
   .ret)
   .skip))
  (.seq (.region [(.bslice 0 (.agg [.int .i64 0, .int .i64 0, .str [], .int .i64 0, .bool false, .bool false, .int .u8 0, .int .i64 0]) [], none),
    (.move (.r 0), none),
    (.app 8 56 (.l 0) (.l 1), none),
    (.move (.l 2), none)] [(2, 3)] [])
  .ret))) }
/- canopy/dispatch.call -/
def c77B0 : C := (.seq (.seq (.region [(.move (.r 1), none),
    (.nilCheck (.l 0), none),
    (.faddr 15 (.l 1), none),
    (.load none (.l 2), none),
    (.len .sl (.l 3), none),
    (.bin .gtr .other (.l 4) (.k (.int .i64 0)), none)] [(17, 5)] [])
  (.cond (.r 17) .skip
   (.exit 0)))
  (.block 1 (.seq (.region [(.move (.r 1), none),
    (.nilCheck (.l 0), none),
    (.faddr 15 (.l 1), none),
    (.load none (.l 2), none),
    (.iaddr 1 (.l 3) (.k (.int .i64 0)), none),
    (.load none (.l 4), none),
    (.alloc (.int .i64 0), none),
    (.store 1 (.l 6) (.l 5), none)] [(7, 6)] [])
  (.seq (.region [(.move (.r 1), none),
    (.move (.r 1), none),
    (.nilCheck (.l 1), none),
    (.faddr 15 (.l 2), none),
    (.load none (.l 3), none),
    (.slice 1 (.l 4) (some (.k (.int .i64 1))) none none, none),
    (.nilCheck (.l 0), none),
    (.faddr 15 (.l 6), none),
    (.store 1 (.l 7) (.l 5), none)] [] [])
  (.seq (.region [(.faddr 0 (.r 2), none),
    (.load none (.l 0), none),
    (.mkFunc 90 [] [(.r 7)], none),
    (.call 87 [(.l 1), (.l 2)], none),
    (.move (.l 3), none)] [(8, 4)] [])
  (.seq (.seq (.region [(.move (.r 8), none),
    (.bin .lss .other (.l 0) (.k (.int .i64 0)), none)] [(37, 1)] [])
  (.cond (.r 37) (.exit 1)
   .skip))
  (.seq (.region [(.faddr 0 (.r 2), none),
    (.load none (.l 0), none),
    (.move (.r 8), none),
    (.iaddr 8 (.l 1) (.l 2), none),
    (.load (some 8) (.l 3), none),
    (.alloc (.agg [.int .i64 0, .int .i64 0, .str [], .int .i64 0, .bool false, .bool false, .int .u8 0, .int .i64 0]), none),
    (.store 8 (.l 5) (.l 4), none)] [(9, 5)] [])
  (.seq (.seq (.region [(.faddr 5 (.r 9), none),
    (.load none (.l 0), none)] [(44, 1)] [])
  (.cond (.r 44) (.region [(.load (some 2) (.r 2), none),
     (.load none (.r 7), none),
     (.call 34 [(.l 0), (.l 1)], none),
     (.move (.l 2), none),
     (.extract (.l 3) 0, none),
     (.extract (.l 3) 1, none),
     (.extract (.l 3) 2, none),
     (.store 2 (.r 2) (.l 4), none)] [] [])
   .skip))
  (.seq (.region [(.move (.r 1), none),
    (.faddr 6 (.r 9), none),
    (.load none (.l 1), none),
    (.bin .eql .other (.l 2) (.k (.int .u8 1)), none),
    (.nilCheck (.l 0), none),
    (.faddr 0 (.l 4), none),
    (.faddr 7 (.l 5), none),
    (.store 1 (.l 6) (.l 3), none)] [] [])
  (.seq (.region [(.move (.r 1), none),
    (.nilCheck (.l 0), none),
    (.load (some 17) (.l 1), none),
    (.move (.r 1), none),
    (.nilCheck (.l 3), none),
    (.faddr 14 (.l 4), none),
    (.load none (.l 5), none),
    (.bin .sub .other (.l 6) (.k (.int .i64 1)), none),
    (.call 91 [(.l 2), (.l 7)], none),
    (.move (.l 8), none),
    (.extract (.l 9) 0, none),
    (.extract (.l 9) 1, none),
    (.move (.l 10), none),
    (.move (.l 11), none)] [(10, 12)] [])
  (.seq (.region [(.load (some 2) (.r 2), none),
    (.load none (.r 7), none),
    (.faddr 3 (.r 9), none),
    (.load none (.l 2), none),
    (.move (.r 10), none),
    (.build [.int .i64 0, .int .i64 0, .int .i64 0] [(0, 1, (.l 1)), (1, 1, (.l 3)), (2, 1, (.l 4))], none),
    (.store 2 (.r 4) (.l 0), none),
    (.store 3 (.r 5) (.l 5), none),
    (.move (.k (.bool true)), none)] [(6, 8)] [(1, 6), (3, 6)])
  .ret)))))))))))
def c77 : AFn := { results := [.cell 4 (some 2), .cell 5 (some 3), .reg 6], body := (.seq (.region [(.box (.r 0), none),
    (.alloc (.agg [.list true [], .int .i64 0]), none),
    (.alloc (.agg [.int .i64 0, .int .i64 0, .int .i64 0]), none),
    (.move (.k (.bool false)), none)] [(2, 0), (4, 1), (5, 2), (6, 3)] [])
  (.seq (.block 0 (.loop c77B0))
  (.seq (.region [(.load (some 2) (.r 2), none),
    (.build [.int .i64 0, .int .i64 0, .int .i64 0] [], none),
    (.store 2 (.r 4) (.l 0), none),
    (.store 3 (.r 5) (.l 1), none),
    (.move (.k (.bool false)), none)] [(6, 4)] [])
  .ret))) }
/- canopy/dispatch.turn -/
def c78 : AFn := { results := [], body := (.seq (.region [(.box (.r 0), none)] [(2, 0)] [])
  (.seq (.region [(.move (.r 1), none),
    (.nilCheck (.l 0), none),
    (.load (some 17) (.l 1), none),
    (.move (.r 1), none),
    (.nilCheck (.l 3), none),
    (.faddr 14 (.l 4), none),
    (.load none (.l 5), none),
    (.call 91 [(.l 2), (.l 6)], none),
    (.move (.l 7), none),
    (.extract (.l 8) 0, none),
    (.extract (.l 8) 1, none),
    (.move (.l 9), none),
    (.move (.l 10), none)] [(4, 11), (5, 12)] [])
  (.seq (.region [(.move (.r 1), none),
    (.nilCheck (.l 0), none),
    (.faddr 14 (.l 1), none),
    (.load none (.l 2), none),
    (.bin .add .other (.l 3) (.k (.int .i64 1)), none),
    (.nilCheck (.l 0), none),
    (.faddr 14 (.l 5), none),
    (.store 1 (.l 6) (.l 4), none)] [] [])
  (.seq (.region [(.move (.r 1), none),
    (.nilCheck (.l 0), none),
    (.faddr 13 (.l 1), none),
    (.load none (.l 2), none),
    (.move (.r 4), none),
    (.iaddr 6 (.l 3) (.l 4), none),
    (.load (some 6) (.l 5), none),
    (.alloc (.agg [.int .i64 0, .bool false, .int .i64 0, .int .i64 0, .bool false, .bool false]), none),
    (.store 6 (.l 7) (.l 6), none)] [(6, 7)] [])
  (.seq (.region [(.move (.k (.int .u8 3)), none)] [(7, 0)] [])
  (.seq (.block 0 (.seq (.region [(.faddr 2 (.r 6), none),
    (.load none (.l 0), none),
    (.bin .neq .other (.l 1) (.k (.int .i64 0)), none),
    (.move (.l 2), none)] [(33, 3)] [])
  (.cond (.r 33) (.region [(.move (.k (.int .u8 2)), none)] [(7, 0)] [])
   (.seq (.region [(.move (.r 5), none),
     (.move (.l 0), none)] [(37, 1)] [])
   (.cond (.r 37) (.region [(.move (.k (.int .u8 1)), none)] [(7, 0)] [])
    .skip)))))
  (.seq (.seq (.region [(.move (.r 7), none),
    (.bin .eql .other (.l 0) (.k (.int .u8 3)), none),
    (.move (.l 1), none),
    (.move (.r 1), (some (2, true))),
    (.nilCheck (.l 3), (some (2, true))),
    (.faddr 0 (.l 4), (some (2, true))),
    (.faddr 1 (.l 5), (some (2, true))),
    (.load none (.l 6), (some (2, true))),
    (.un .not (.l 7), (some (2, true))),
    (.pick (.l 2) (.l 8) (.k (.bool false)), none),
    (.move (.l 9), none),
    (.move (.r 1), (some (10, false))),
    (.nilCheck (.l 11), (some (10, false))),
    (.faddr 0 (.l 12), (some (10, false))),
    (.faddr 5 (.l 13), (some (10, false))),
    (.load none (.l 14), (some (10, false))),
    (.pick (.l 10) (.k (.bool true)) (.l 15), none)] [(55, 16)] [(2, 2), (10, 10)])
  (.cond (.r 55) .ret
   .skip))
  (.seq (.region [(.move (.r 1), none),
    (.move (.r 1), none),
    (.move (.r 1), none),
    (.move (.r 1), none),
    (.move (.r 7), none),
    (.faddr 0 (.r 6), none),
    (.load none (.l 5), none),
    (.move (.r 1), none),
    (.nilCheck (.l 7), none),
    (.faddr 13 (.l 8), none),
    (.load none (.l 9), none),
    (.move (.r 4), none),
    (.bin .add .other (.l 11) (.k (.int .i64 1)), none),
    (.slice 6 (.l 10) none (some (.l 12)) none, none),
    (.call 92 [(.l 13)], none),
    (.faddr 3 (.r 6), none),
    (.load none (.l 15), none),
    (.nilCheck (.l 0), none),
    (.faddr 0 (.l 17), none),
    (.faddr 9 (.l 18), none),
    (.store 1 (.l 19) (.l 4), none),
    (.nilCheck (.l 1), none),
    (.faddr 0 (.l 21), none),
    (.faddr 12 (.l 22), none),
    (.store 1 (.l 23) (.l 6), none),
    (.nilCheck (.l 2), none),
    (.faddr 0 (.l 25), none),
    (.faddr 10 (.l 26), none),
    (.store 1 (.l 27) (.l 14), none),
    (.nilCheck (.l 3), none),
    (.faddr 0 (.l 29), none),
    (.faddr 11 (.l 30), none),
    (.store 1 (.l 31) (.l 16), none)] [] [(6, 14), (14, 16), (6, 20), (16, 20), (16, 24), (16, 28)])
  (.region [(.move (.r 1), none),
    (.load (some 2) (.r 2), none),
    (.faddr 0 (.r 6), none),
    (.load none (.l 2), none),
    (.move (.r 1), none),
    (.nilCheck (.l 4), none),
    (.faddr 0 (.l 5), none),
    (.faddr 0 (.l 6), none),
    (.load none (.l 7), none),
    (.move (.r 7), none),
    (.move (.r 5), none),
    (.call 25 [(.l 1), (.l 3), (.l 8), (.l 9), (.l 10)], none),
    (.move (.l 11), none),
    (.extract (.l 12) 0, none),
    (.extract (.l 12) 1, none),
    (.nilCheck (.l 0), none),
    (.faddr 15 (.l 15), none),
    (.store 1 (.l 16) (.l 13), none)] [] []))))))))) }
/- canopy/canopyref22.by -/
def c79B0 : C := (.seq (.seq (.region [(.move (.r 6), none),
    (.faddr 0 (.r 2), none),
    (.load none (.l 1), none),
    (.len .sl (.l 2), none),
    (.bin .lss .other (.l 0) (.l 3), none)] [(11, 4)] [])
  (.cond (.r 11) .skip
   (.exit 0)))
  (.seq (.block 1 (.seq (.region [(.faddr 0 (.r 2), none),
    (.load none (.l 0), none),
    (.move (.r 6), none),
    (.iaddr 8 (.l 1) (.l 2), none),
    (.faddr 0 (.l 3), none),
    (.load none (.l 4), none),
    (.move (.r 1), none),
    (.bin .eql .other (.l 5) (.l 6), none)] [(21, 7)] [])
  (.cond (.r 21) (.seq (.region [(.faddr 0 (.r 2), none),
     (.load none (.l 0), none),
     (.move (.r 6), none),
     (.iaddr 8 (.l 1) (.l 2), none),
     (.load (some 8) (.l 3), none),
     (.store 8 (.r 4) (.l 4), none),
     (.move (.k (.bool true)), none)] [(5, 6)] [])
   .ret)
   .skip)))
  (.region [(.move (.r 6), none),
    (.bin .add .other (.l 0) (.k (.int .i64 1)), none),
    (.move (.l 1), none)] [(6, 2)] [])))
def c79 : AFn := { results := [.cell 4 (some 8), .reg 5], body := (.seq (.region [(.box (.r 0), none),
    (.alloc (.agg [.int .i64 0, .int .i64 0, .str [], .int .i64 0, .bool false, .bool false, .int .u8 0, .int .i64 0]), none),
    (.move (.k (.bool false)), none)] [(2, 0), (4, 1), (5, 2)] [])
  (.seq (.seq (.region [(.move (.k (.int .i64 0)), none)] [(6, 0)] [])
  (.block 0 (.loop c79B0)))
  (.seq (.region [(.build [.int .i64 0, .int .i64 0, .str [], .int .i64 0, .bool false, .bool false, .int .u8 0, .int .i64 0] [], none),
    (.store 8 (.r 4) (.l 0), none),
    (.move (.k (.bool false)), none)] [(5, 2)] [])
  .ret))) }
/- canopy/canopyref22.step -/
def c80 : AFn := { results := [.reg 2, .reg 3], body := (.seq (.region [(.box (.r 0), none),
    (.move (.k (.int .i64 0)), none),
    (.move (.k (.bool false)), none)] [(1, 0), (2, 1), (3, 2)] [])
  (.seq (.region [(.faddr 14 (.r 1), none),
    (.load none (.l 0), none),
    (.bin .sub .other (.l 1) (.k (.int .i64 1)), none),
    (.move (.l 2), none)] [(4, 3)] [])
  (.seq (.region [(.faddr 13 (.r 1), none),
    (.load none (.l 0), none),
    (.len .sl (.l 1), none),
    (.move (.l 2), none)] [(5, 3)] [])
  (.seq (.seq (.region [(.move (.r 4), none),
    (.move (.r 5), none),
    (.bin .lss .other (.l 0) (.l 1), none)] [(14, 2)] [])
  (.cond (.r 14) (.seq (.region [(.move (.r 5), none),
     (.bin .sub .other (.l 0) (.k (.int .i64 1)), none),
     (.move (.r 4), none),
     (.bin .sub .other (.l 1) (.l 2), none),
     (.move (.l 3), none),
     (.move (.k (.bool true)), none)] [(2, 4), (3, 5)] [])
   .ret)
   .skip))
  (.seq (.region [(.move (.r 4), none),
    (.move (.r 5), none),
    (.bin .sub .other (.l 0) (.l 1), none),
    (.move (.l 2), none),
    (.move (.k (.bool false)), none)] [(2, 3), (3, 4)] [])
  .ret))))) }
/- canopy/canopyref22.begun -/
def c81 : AFn := { results := [.cell 4 (some 17)], body := (.seq (.region [(.box (.r 0), none),
    (.box (.r 1), none),
    (.alloc (.agg [.str [], .bool false, .bool false, .bool false, .bool false, .bool false, .bool false, .bool false, .bool false, .int .u8 0, .int .i64 0, .int .i64 0, .int .i64 0, .list true [], .int .i64 0, .list true [], .bool false]), none)] [(2, 0), (3, 1), (4, 2)] [])
  (.seq (.region [(.faddr 14 (.r 3), none),
    (.load none (.l 0), none),
    (.bin .add .other (.l 1) (.k (.int .i64 1)), none),
    (.faddr 14 (.r 3), none),
    (.store 1 (.l 3) (.l 2), none)] [] [])
  (.seq (.region [(.load (some 17) (.r 3), none),
    (.call 80 [(.l 0)], none),
    (.move (.l 1), none),
    (.extract (.l 2) 0, none),
    (.extract (.l 2) 1, none),
    (.move (.l 3), none),
    (.move (.l 4), none)] [(5, 5), (6, 6)] [])
  (.seq (.region [(.faddr 13 (.r 3), none),
    (.load none (.l 0), none),
    (.move (.r 5), none),
    (.iaddr 6 (.l 1) (.l 2), none),
    (.load (some 6) (.l 3), none),
    (.alloc (.agg [.int .i64 0, .bool false, .int .i64 0, .int .i64 0, .bool false, .bool false]), none),
    (.store 6 (.l 5) (.l 4), none)] [(7, 5)] [])
  (.seq (.region [(.move (.k (.int .u8 3)), none)] [(8, 0)] [])
  (.seq (.seq (.region [(.move (.r 6), none)] [(23, 0)] [])
  (.cond (.r 23) (.region [(.move (.k (.int .u8 1)), none)] [(8, 0)] [])
   .skip))
  (.seq (.seq (.region [(.faddr 2 (.r 7), none),
    (.load none (.l 0), none),
    (.bin .neq .other (.l 1) (.k (.int .i64 0)), none)] [(26, 2)] [])
  (.cond (.r 26) (.region [(.move (.k (.int .u8 2)), none)] [(8, 0)] [])
   .skip))
  (.seq (.seq (.region [(.move (.r 8), none),
    (.bin .eql .other (.l 0) (.k (.int .u8 3)), none),
    (.move (.l 1), none),
    (.faddr 0 (.r 3), (some (2, true))),
    (.faddr 1 (.l 3), (some (2, true))),
    (.load none (.l 4), (some (2, true))),
    (.un .not (.l 5), (some (2, true))),
    (.pick (.l 2) (.l 6) (.k (.bool false)), none),
    (.move (.l 7), none),
    (.faddr 0 (.r 3), (some (8, false))),
    (.faddr 5 (.l 9), (some (8, false))),
    (.load none (.l 10), (some (8, false))),
    (.pick (.l 8) (.k (.bool true)) (.l 11), none)] [(39, 12)] [(2, 2), (8, 8)])
  (.cond (.r 39) (.seq (.region [(.load (some 17) (.r 3), none),
     (.store 17 (.r 4) (.l 0), none)] [] [])
   .ret)
   .skip))
  (.seq (.region [(.move (.r 8), none),
    (.faddr 0 (.r 3), none),
    (.faddr 9 (.l 1), none),
    (.store 1 (.l 2) (.l 0), none)] [] [])
  (.seq (.region [(.faddr 0 (.r 7), none),
    (.load none (.l 0), none),
    (.faddr 0 (.r 3), none),
    (.faddr 12 (.l 2), none),
    (.store 1 (.l 3) (.l 1), none)] [] [])
  (.seq (.region [(.faddr 13 (.r 3), none),
    (.load none (.l 0), none),
    (.move (.r 5), none),
    (.call 93 [(.l 1), (.l 2)], none),
    (.faddr 0 (.r 3), none),
    (.faddr 10 (.l 4), none),
    (.store 1 (.l 5) (.l 3), none)] [] [])
  (.seq (.region [(.faddr 3 (.r 7), none),
    (.load none (.l 0), none),
    (.faddr 0 (.r 3), none),
    (.faddr 11 (.l 2), none),
    (.store 1 (.l 3) (.l 1), none)] [] [])
  (.seq (.region [(.load (some 2) (.r 2), none),
    (.faddr 0 (.r 7), none),
    (.load none (.l 1), none),
    (.faddr 0 (.r 3), none),
    (.faddr 0 (.l 3), none),
    (.load none (.l 4), none),
    (.move (.r 8), none),
    (.move (.r 6), none),
    (.call 26 [(.l 0), (.l 2), (.l 5), (.l 6), (.l 7)], none),
    (.move (.l 8), none),
    (.extract (.l 9) 0, none),
    (.extract (.l 9) 1, none),
    (.faddr 15 (.r 3), none),
    (.store 1 (.l 12) (.l 10), none)] [] [])
  (.seq (.region [(.load (some 17) (.r 3), none),
    (.store 17 (.r 4) (.l 0), none)] [] [])
  .ret)))))))))))))) }
/- canopy/dispatch.wrong -/
def c82B0 : C := (.seq (.region [(.bin .lss .other (.r 12) (.r 11), none)] [(13, 0)] [])
  (.seq (.cond (.r 13) .skip
   (.exit 0))
  (.seq (.block 1 (.seq (.region [(.iaddr 3 (.r 10) (.r 12), none),
    (.load (some 3) (.l 0), none),
    (.alloc (.agg [.int .i64 0, .list true [], .list true []]), none),
    (.store 3 (.l 2) (.l 1), none)] [(4, 2)] [])
  (.seq (.region [(.faddr 1 (.r 4), none),
    (.load none (.l 0), none),
    (.len .sl (.l 1), none),
    (.bin .gtr .other (.l 2) (.k (.int .i64 4096)), none),
    (.move (.l 3), none),
    (.faddr 2 (.r 4), (some (4, false))),
    (.load none (.l 5), (some (4, false))),
    (.len .sl (.l 6), (some (4, false))),
    (.bin .gtr .other (.l 7) (.k (.int .i64 4096)), (some (4, false))),
    (.pick (.l 4) (.k (.bool true)) (.l 8), none)] [(25, 9)] [(4, 4)])
  (.cond (.r 25) (.seq (.region [(.move (.k (.int .i64 3)), none)] [(2, 0)] [])
   .ret)
   .skip))))
  (.region [(.bin .add .other (.r 12) (.k (.int .i64 1)), none),
    (.move (.l 0), none)] [(12, 1)] []))))
def c82B1 : C := (.seq (.region [(.bin .lss .other (.r 29) (.r 28), none)] [(30, 0)] [])
  (.seq (.cond (.r 30) .skip
   (.exit 2))
  (.seq (.block 3 (.seq (.region [(.iaddr 3 (.r 27) (.r 29), none),
    (.load (some 3) (.l 0), none),
    (.alloc (.agg [.int .i64 0, .list true [], .list true []]), none),
    (.store 3 (.l 2) (.l 1), none)] [(6, 2)] [])
  (.seq (.region [(.faddr 1 (.r 6), none),
    (.load none (.l 0), none),
    (.call 94 [(.l 1), (.k (.fn 95))], none)] [(35, 2)] [])
  (.cond (.r 35) (.seq (.region [(.move (.k (.int .i64 23)), none)] [(2, 0)] [])
   .ret)
   .skip))))
  (.region [(.bin .add .other (.r 29) (.k (.int .i64 1)), none),
    (.move (.l 0), none)] [(29, 1)] []))))
def c82 : AFn := { results := [.reg 2], body := (.seq (.region [(.move (.k (.int .i64 0)), none)] [(2, 0)] [])
  (.seq (.seq (.region [(.move (.r 0), none),
    (.len .sl (.l 0), none),
    (.bin .gtr .other (.l 1) (.k (.int .i64 4096)), none)] [(9, 2)] [])
  (.cond (.r 9) (.seq (.region [(.move (.k (.int .i64 3)), none)] [(2, 0)] [])
   .ret)
   .skip))
  (.seq (.seq (.region [(.move (.r 0), none),
    (.len .sl (.l 0), none),
    (.move (.k (.int .i64 0)), none)] [(10, 0), (11, 1), (12, 2)] [])
  (.block 0 (.loop c82B0)))
  (.seq (.seq (.region [(.move (.r 0), none),
    (.len .sl (.l 0), none),
    (.move (.k (.int .i64 0)), none)] [(27, 0), (28, 1), (29, 2)] [])
  (.block 2 (.loop c82B1)))
  (.seq (.region [(.move (.k (.int .i64 0)), none)] [(2, 0)] [])
  .ret))))) }
/- slices.IndexFunc[[]canopy/api.Effects,canopy/api.Effects] -/
def c83B0 : C := (.seq (.region [(.bin .lss .other (.r 8) (.r 7), none)] [(9, 0)] [])
  (.seq (.cond (.r 9) .skip
   (.exit 0))
  (.seq (.block 1 (.seq (.region [(.move (.r 8), none),
    (.move (.l 0), none)] [(5, 1)] [])
  (.seq (.region [(.move (.r 1), none),
    (.move (.r 0), none),
    (.move (.r 5), none),
    (.iaddr 3 (.l 1) (.l 2), none),
    (.load (some 3) (.l 3), none),
    (.callv (.l 0) [(.l 4)], none)] [(16, 5)] [])
  (.cond (.r 16) (.seq (.region [(.move (.r 5), none),
     (.move (.l 0), none)] [(4, 1)] [])
   .ret)
   .skip))))
  (.region [(.bin .add .other (.r 8) (.k (.int .i64 1)), none),
    (.move (.l 0), none)] [(8, 1)] []))))
def c83 : AFn := { results := [.reg 4], body := (.seq (.region [(.move (.k (.int .i64 0)), none)] [(4, 0)] [])
  (.seq (.seq (.region [(.move (.r 0), none),
    (.len .sl (.l 0), none),
    (.move (.k (.int .i64 0)), none)] [(7, 1), (8, 2)] [])
  (.block 0 (.loop c83B0)))
  (.seq (.region [(.move (.k (.int .i64 (-1))), none)] [(4, 0)] [])
  .ret))) }
/- canopy/dispatch.All$1 -/
def c84 : AFn := { results := [.reg 3], body := (.seq (.region [(.box (.r 0), none),
    (.move (.k (.bool false)), none)] [(2, 0), (3, 1)] [])
  (.seq (.region [(.faddr 0 (.r 2), none),
    (.load none (.l 0), none),
    (.faddr 1 (.r 1), none),
    (.load none (.l 2), none),
    (.bin .eql .other (.l 1) (.l 3), none),
    (.move (.l 4), none)] [(3, 5)] [])
  .ret)) }
/- canopy/canopyref22.wrong -/
def c85B0 : C := (.seq (.seq (.region [(.move (.r 3), none),
    (.move (.r 0), none),
    (.len .sl (.l 1), none),
    (.bin .lss .other (.l 0) (.l 2), none)] [(12, 3)] [])
  (.cond (.r 12) .skip
   (.exit 0)))
  (.seq (.block 1 (.seq (.region [(.move (.r 0), none),
    (.move (.r 3), none),
    (.iaddr 3 (.l 0) (.l 1), none),
    (.faddr 1 (.l 2), none),
    (.load none (.l 3), none),
    (.len .sl (.l 4), none),
    (.bin .gtr .other (.l 5) (.k (.int .i64 4096)), none),
    (.move (.l 6), none),
    (.move (.r 0), (some (7, false))),
    (.move (.r 3), (some (7, false))),
    (.iaddr 3 (.l 8) (.l 9), (some (7, false))),
    (.faddr 2 (.l 10), (some (7, false))),
    (.load none (.l 11), (some (7, false))),
    (.len .sl (.l 12), (some (7, false))),
    (.bin .gtr .other (.l 13) (.k (.int .i64 4096)), (some (7, false))),
    (.pick (.l 7) (.k (.bool true)) (.l 14), none)] [(30, 15)] [(7, 7)])
  (.cond (.r 30) (.seq (.region [(.move (.k (.int .i64 3)), none)] [(2, 0)] [])
   .ret)
   .skip)))
  (.region [(.move (.r 3), none),
    (.bin .add .other (.l 0) (.k (.int .i64 1)), none),
    (.move (.l 1), none)] [(3, 2)] [])))
def c85B1 : C := (.seq (.seq (.region [(.move (.r 5), none),
    (.move (.r 0), none),
    (.move (.r 4), none),
    (.iaddr 3 (.l 1) (.l 2), none),
    (.faddr 1 (.l 3), none),
    (.load none (.l 4), none),
    (.len .sl (.l 5), none),
    (.bin .lss .other (.l 0) (.l 6), none)] [(44, 7)] [])
  (.cond (.r 44) .skip
   (.exit 4)))
  (.seq (.block 5 (.seq (.region [(.move (.r 0), none),
    (.move (.r 4), none),
    (.iaddr 3 (.l 0) (.l 1), none),
    (.faddr 1 (.l 2), none),
    (.load none (.l 3), none),
    (.move (.r 5), none),
    (.iaddr 1 (.l 4) (.l 5), none),
    (.load none (.l 6), none),
    (.bin .geq .other (.l 7) (.k (.int .u8 4)), none)] [(55, 8)] [])
  (.cond (.r 55) (.seq (.region [(.move (.k (.int .i64 23)), none)] [(2, 0)] [])
   .ret)
   .skip)))
  (.region [(.move (.r 5), none),
    (.bin .add .other (.l 0) (.k (.int .i64 1)), none),
    (.move (.l 1), none)] [(5, 2)] [])))
def c85B2 : C := (.seq (.seq (.region [(.move (.r 4), none),
    (.move (.r 0), none),
    (.len .sl (.l 1), none),
    (.bin .lss .other (.l 0) (.l 2), none)] [(34, 3)] [])
  (.cond (.r 34) .skip
   (.exit 2)))
  (.seq (.block 3 (.seq (.region [(.move (.k (.int .i64 0)), none)] [(5, 0)] [])
  (.block 4 (.loop c85B1))))
  (.region [(.move (.r 4), none),
    (.bin .add .other (.l 0) (.k (.int .i64 1)), none),
    (.move (.l 1), none)] [(4, 2)] [])))
def c85 : AFn := { results := [.reg 2], body := (.seq (.region [(.move (.k (.int .i64 0)), none)] [(2, 0)] [])
  (.seq (.seq (.region [(.move (.r 0), none),
    (.len .sl (.l 0), none),
    (.bin .gtr .other (.l 1) (.k (.int .i64 4096)), none)] [(8, 2)] [])
  (.cond (.r 8) (.seq (.region [(.move (.k (.int .i64 3)), none)] [(2, 0)] [])
   .ret)
   .skip))
  (.seq (.seq (.region [(.move (.k (.int .i64 0)), none)] [(3, 0)] [])
  (.block 0 (.loop c85B0)))
  (.seq (.seq (.region [(.move (.k (.int .i64 0)), none)] [(4, 0)] [])
  (.block 2 (.loop c85B2)))
  (.seq (.region [(.move (.k (.int .i64 0)), none)] [(2, 0)] [])
  .ret))))) }
/- canopy/canopyref22.Done -/
def c86B0 : C := (.seq (.seq (.region [(.move (.r 11), none),
    (.move (.r 3), none),
    (.move (.r 10), none),
    (.iaddr 3 (.l 1) (.l 2), none),
    (.faddr 1 (.l 3), none),
    (.load none (.l 4), none),
    (.len .sl (.l 5), none),
    (.bin .lss .other (.l 0) (.l 6), none)] [(33, 7)] [])
  (.cond (.r 33) .skip
   (.exit 2)))
  (.seq (.block 3 (.region [(.load (some 17) (.r 5), none),
    (.move (.r 3), none),
    (.move (.r 10), none),
    (.iaddr 3 (.l 1) (.l 2), none),
    (.faddr 1 (.l 3), none),
    (.load none (.l 4), none),
    (.move (.r 11), none),
    (.iaddr 1 (.l 5) (.l 6), none),
    (.load none (.l 7), none),
    (.call 49 [(.l 0), (.l 8)], none),
    (.move (.l 9), none),
    (.extract (.l 10) 0, none),
    (.extract (.l 10) 1, none),
    (.store 17 (.r 5) (.l 11), none)] [] []))
  (.region [(.move (.r 11), none),
    (.bin .add .other (.l 0) (.k (.int .i64 1)), none),
    (.move (.l 1), none)] [(11, 2)] [])))
def c86B1 : C := (.seq (.seq (.region [(.move (.r 12), none),
    (.move (.r 3), none),
    (.move (.r 10), none),
    (.iaddr 3 (.l 1) (.l 2), none),
    (.faddr 2 (.l 3), none),
    (.load none (.l 4), none),
    (.len .sl (.l 5), none),
    (.bin .lss .other (.l 0) (.l 6), none)] [(56, 7)] [])
  (.cond (.r 56) .skip
   (.exit 4)))
  (.seq (.block 5 (.region [(.load (some 2) (.r 4), none),
    (.move (.r 3), none),
    (.move (.r 10), none),
    (.iaddr 3 (.l 1) (.l 2), none),
    (.faddr 2 (.l 3), none),
    (.load none (.l 4), none),
    (.move (.r 12), none),
    (.iaddr 1 (.l 5) (.l 6), none),
    (.load none (.l 7), none),
    (.call 35 [(.l 0), (.l 8)], none),
    (.move (.l 9), none),
    (.extract (.l 10) 0, none),
    (.extract (.l 10) 1, none),
    (.extract (.l 10) 2, none),
    (.store 2 (.r 4) (.l 11), none)] [] []))
  (.region [(.move (.r 12), none),
    (.bin .add .other (.l 0) (.k (.int .i64 1)), none),
    (.move (.l 1), none)] [(12, 2)] [])))
def c86B2 : C := (.seq (.seq (.region [(.move (.r 10), none),
    (.move (.r 3), none),
    (.len .sl (.l 1), none),
    (.bin .lss .other (.l 0) (.l 2), none)] [(16, 3)] [])
  (.cond (.r 16) .skip
   (.exit 0)))
  (.seq (.block 1 (.seq (.seq (.region [(.move (.r 3), none),
    (.move (.r 10), none),
    (.iaddr 3 (.l 0) (.l 1), none),
    (.faddr 0 (.l 2), none),
    (.load none (.l 3), none),
    (.move (.r 2), none),
    (.bin .neq .other (.l 4) (.l 5), none)] [(25, 6)] [])
  (.cond (.r 25) (.exit 1)
   .skip))
  (.seq (.seq (.region [(.move (.k (.int .i64 0)), none)] [(11, 0)] [])
  (.block 2 (.loop c86B0)))
  (.seq (.seq (.region [(.move (.k (.int .i64 0)), none)] [(12, 0)] [])
  (.block 4 (.loop c86B1)))
  (.seq (.region [(.load (some 2) (.r 4), none),
    (.load (some 17) (.r 5), none),
    (.store 2 (.r 8) (.l 0), none),
    (.store 17 (.r 9) (.l 1), none)] [] [(1, 2)])
  .ret)))))
  (.region [(.move (.r 10), none),
    (.bin .add .other (.l 0) (.k (.int .i64 1)), none),
    (.move (.l 1), none)] [(10, 2)] [])))
def c86 : AFn := { results := [.cell 8 (some 2), .cell 9 (some 17)], body := (.seq (.region [(.box (.r 0), none),
    (.box (.r 1), none),
    (.alloc (.agg [.list true [], .int .i64 0]), none),
    (.alloc (.agg [.str [], .bool false, .bool false, .bool false, .bool false, .bool false, .bool false, .bool false, .bool false, .int .u8 0, .int .i64 0, .int .i64 0, .int .i64 0, .list true [], .int .i64 0, .list true [], .bool false]), none)] [(4, 0), (5, 1), (8, 2), (9, 3)] [])
  (.seq (.seq (.region [(.move (.k (.int .i64 0)), none)] [(10, 0)] [])
  (.block 0 (.loop c86B2)))
  (.seq (.region [(.load (some 2) (.r 4), none),
    (.load (some 17) (.r 5), none),
    (.store 2 (.r 8) (.l 0), none),
    (.store 17 (.r 9) (.l 1), none)] [] [(1, 2)])
  .ret))) }
/- slices.IndexFunc[[]canopy/api.Listener,canopy/api.Listener] -/
def c87B0 : C := (.seq (.region [(.bin .lss .other (.r 8) (.r 7), none)] [(9, 0)] [])
  (.seq (.cond (.r 9) .skip
   (.exit 0))
  (.seq (.block 1 (.seq (.region [(.move (.r 8), none),
    (.move (.l 0), none)] [(5, 1)] [])
  (.seq (.region [(.move (.r 1), none),
    (.move (.r 0), none),
    (.move (.r 5), none),
    (.iaddr 8 (.l 1) (.l 2), none),
    (.load (some 8) (.l 3), none),
    (.callv (.l 0) [(.l 4)], none)] [(16, 5)] [])
  (.cond (.r 16) (.seq (.region [(.move (.r 5), none),
     (.move (.l 0), none)] [(4, 1)] [])
   .ret)
   .skip))))
  (.region [(.bin .add .other (.r 8) (.k (.int .i64 1)), none),
    (.move (.l 0), none)] [(8, 1)] []))))
def c87 : AFn := { results := [.reg 4], body := (.seq (.region [(.move (.k (.int .i64 0)), none)] [(4, 0)] [])
  (.seq (.seq (.region [(.move (.r 0), none),
    (.len .sl (.l 0), none),
    (.move (.k (.int .i64 0)), none)] [(7, 1), (8, 2)] [])
  (.block 0 (.loop c87B0)))
  (.seq (.region [(.move (.k (.int .i64 (-1))), none)] [(4, 0)] [])
  .ret))) }
/- canopy/canopyref21.Alike -/
def c88 : AFn := { results := [.reg 4], body := (.seq (.region [(.box (.r 0), none),
    (.box (.r 1), none),
    (.move (.k (.bool false)), none)] [(2, 0), (3, 1), (4, 2)] [])
  (.seq (.region [(.faddr 1 (.r 2), none),
    (.load none (.l 0), none),
    (.faddr 1 (.r 3), none),
    (.load none (.l 2), none),
    (.bin .eql .other (.l 1) (.l 3), none),
    (.move (.l 4), none),
    (.faddr 2 (.r 2), (some (5, true))),
    (.load none (.l 6), (some (5, true))),
    (.faddr 2 (.r 3), (some (5, true))),
    (.load none (.l 8), (some (5, true))),
    (.bin .eql .other (.l 7) (.l 9), (some (5, true))),
    (.pick (.l 5) (.l 10) (.k (.bool false)), none),
    (.move (.l 11), none),
    (.faddr 3 (.r 2), (some (12, true))),
    (.load none (.l 13), (some (12, true))),
    (.faddr 3 (.r 3), (some (12, true))),
    (.load none (.l 15), (some (12, true))),
    (.bin .eql .other (.l 14) (.l 16), (some (12, true))),
    (.pick (.l 12) (.l 17) (.k (.bool false)), none),
    (.move (.l 18), none),
    (.faddr 4 (.r 2), (some (19, true))),
    (.load none (.l 20), (some (19, true))),
    (.faddr 4 (.r 3), (some (19, true))),
    (.load none (.l 22), (some (19, true))),
    (.bin .eql .bool (.l 21) (.l 23), (some (19, true))),
    (.pick (.l 19) (.l 24) (.k (.bool false)), none),
    (.move (.l 25), none)] [(4, 26)] [(5, 5), (12, 12), (19, 19)])
  .ret)) }
/- slices.Clone[[]int,int] -/
def c89 : AFn := { results := [.reg 2], body := (.seq (.region [(.move (.k (.list true [])), none)] [(2, 0)] [])
  (.seq (.seq (.region [(.move (.r 0), none),
    (.bin .eql .slice (.l 0) (.k (.list true [])), none)] [(4, 1)] [])
  (.cond (.r 4) (.seq (.region [(.move (.k (.list true [])), none)] [(2, 0)] [])
   .ret)
   .skip))
  (.seq (.region [(.bslice 0 (.int .i64 0) [], none),
    (.move (.r 0), none),
    (.app 1 8 (.l 0) (.l 1), none),
    (.move (.l 2), none)] [(2, 3)] [])
  .ret))) }
/- canopy/dispatch.call$1 -/
def c90 : AFn := { results := [.reg 3], body := (.seq (.region [(.box (.r 0), none),
    (.move (.k (.bool false)), none)] [(2, 0), (3, 1)] [])
  (.seq (.region [(.faddr 0 (.r 2), none),
    (.load none (.l 0), none),
    (.load none (.r 1), none),
    (.bin .eql .other (.l 1) (.l 2), none),
    (.move (.l 3), none)] [(3, 4)] [])
  .ret)) }
/- canopy/dispatch.place -/
def c91 : AFn := { results := [.reg 4, .reg 5], body := (.seq (.region [(.box (.r 0), none),
    (.move (.k (.int .i64 0)), none),
    (.move (.k (.bool false)), none)] [(2, 0), (4, 1), (5, 2)] [])
  (.seq (.region [(.faddr 13 (.r 2), none),
    (.load none (.l 0), none),
    (.len .sl (.l 1), none),
    (.move (.l 2), none)] [(6, 3)] [])
  (.seq (.seq (.region [(.move (.r 1), none),
    (.move (.r 6), none),
    (.bin .lss .other (.l 0) (.l 1), none)] [(12, 2)] [])
  (.cond (.r 12) (.seq (.region [(.move (.r 6), none),
     (.bin .sub .other (.l 0) (.k (.int .i64 1)), none),
     (.move (.r 1), none),
     (.bin .sub .other (.l 1) (.l 2), none),
     (.move (.l 3), none),
     (.move (.k (.bool true)), none)] [(4, 4), (5, 5)] [])
   .ret)
   .skip))
  (.seq (.region [(.move (.r 1), none),
    (.move (.r 6), none),
    (.bin .sub .other (.l 0) (.l 1), none),
    (.move (.l 2), none),
    (.move (.k (.bool false)), none)] [(4, 3), (5, 4)] [])
  .ret)))) }
/- canopy/dispatch.target -/
def c92B0 : C := (.region [(.alloc (.agg [.int .i64 0, .bool false, .int .i64 0, .int .i64 0, .bool false, .bool false]), none),
    (.store 6 (.l 0) (.r 8), none)] [(4, 0)] [])
def c92B1 : C := (.block 1 (.seq (.region [(.faddr 2 (.r 4), none),
    (.load none (.l 0), none),
    (.bin .neq .other (.l 1) (.k (.int .i64 0)), none)] [(11, 2)] [])
  (.cond (.r 11) (.seq (.region [(.faddr 2 (.r 4), none),
     (.load none (.l 0), none),
     (.store 1 (.r 2) (.l 1), none)] [] [])
   .ret)
   .skip)))
def c92 : AFn := { results := [.cell 2 none], body := (.seq (.region [(.alloc (.int .i64 0), none)] [(2, 0)] [])
  (.seq (.seq (.region [(.move (.r 0), none),
    (.call 96 [(.l 0)], none)] [(6, 1)] [])
  (.block 0 (.rfunc (.r 6) [7, 8] c92B0 c92B1)))
  (.seq (.region [(.store 1 (.r 2) (.k (.int .i64 0)), none)] [] [])
  .ret))) }
/- canopy/canopyref22.target -/
def c93B0 : C := (.seq (.seq (.region [(.move (.r 6), none),
    (.move (.r 1), none),
    (.bin .leq .other (.l 0) (.l 1), none)] [(9, 2)] [])
  (.cond (.r 9) .skip
   (.exit 0)))
  (.seq (.block 1 (.seq (.region [(.move (.r 0), none),
    (.move (.r 6), none),
    (.iaddr 6 (.l 0) (.l 1), none),
    (.faddr 2 (.l 2), none),
    (.load none (.l 3), none),
    (.bin .neq .other (.l 4) (.k (.int .i64 0)), none)] [(17, 5)] [])
  (.cond (.r 17) (.region [(.move (.r 0), none),
     (.move (.r 6), none),
     (.iaddr 6 (.l 0) (.l 1), none),
     (.faddr 2 (.l 2), none),
     (.load none (.l 3), none),
     (.move (.l 4), none)] [(5, 5)] [])
   .skip)))
  (.region [(.move (.r 6), none),
    (.bin .add .other (.l 0) (.k (.int .i64 1)), none),
    (.move (.l 1), none)] [(6, 2)] [])))
def c93 : AFn := { results := [.reg 4], body := (.seq (.region [(.move (.k (.int .i64 0)), none)] [(4, 0)] [])
  (.seq (.region [(.move (.k (.int .i64 0)), none)] [(5, 0)] [])
  (.seq (.seq (.region [(.move (.k (.int .i64 0)), none)] [(6, 0)] [])
  (.block 0 (.loop c93B0)))
  (.seq (.region [(.move (.r 5), none),
    (.move (.l 0), none)] [(4, 1)] [])
  .ret)))) }
/- slices.ContainsFunc[[]canopy/api.Effect,canopy/api.Effect] -/
def c94 : AFn := { results := [.reg 4], body := (.seq (.region [(.move (.k (.bool false)), none)] [(4, 0)] [])
  (.seq (.region [(.move (.r 0), none),
    (.move (.r 1), none),
    (.call 97 [(.l 0), (.l 1)], none),
    (.bin .geq .other (.l 2) (.k (.int .i64 0)), none),
    (.move (.l 3), none)] [(4, 4)] [])
  .ret)) }
/- canopy/dispatch.wrong$1 -/
def c95 : AFn := { results := [.reg 2], body := (.seq (.region [(.move (.k (.bool false)), none)] [(2, 0)] [])
  (.seq (.region [(.move (.r 0), none),
    (.bin .geq .other (.l 0) (.k (.int .u8 4)), none),
    (.move (.l 1), none)] [(2, 2)] [])
  .ret)) }
/- slices.Backward[[]canopy/api.Step,canopy/api.Step] -/
def c96 : AFn := { results := [.reg 2], body := (.seq (.region [(.box (.r 0), none),
    (.move (.k (.nilf)), none)] [(1, 0), (2, 1)] [])
  (.seq (.region [(.mkFunc 98 [] [(.r 1)], none),
    (.move (.l 0), none)] [(2, 1)] [])
  .ret)) }
/- slices.IndexFunc[[]canopy/api.Effect,canopy/api.Effect] -/
def c97B0 : C := (.seq (.region [(.bin .lss .other (.r 8) (.r 7), none)] [(9, 0)] [])
  (.seq (.cond (.r 9) .skip
   (.exit 0))
  (.seq (.block 1 (.seq (.region [(.move (.r 8), none),
    (.move (.l 0), none)] [(5, 1)] [])
  (.seq (.region [(.move (.r 1), none),
    (.move (.r 0), none),
    (.move (.r 5), none),
    (.iaddr 1 (.l 1) (.l 2), none),
    (.load none (.l 3), none),
    (.callv (.l 0) [(.l 4)], none)] [(16, 5)] [])
  (.cond (.r 16) (.seq (.region [(.move (.r 5), none),
     (.move (.l 0), none)] [(4, 1)] [])
   .ret)
   .skip))))
  (.region [(.bin .add .other (.r 8) (.k (.int .i64 1)), none),
    (.move (.l 0), none)] [(8, 1)] []))))
def c97 : AFn := { results := [.reg 4], body := (.seq (.region [(.move (.k (.int .i64 0)), none)] [(4, 0)] [])
  (.seq (.seq (.region [(.move (.r 0), none),
    (.len .sl (.l 0), none),
    (.move (.k (.int .i64 0)), none)] [(7, 1), (8, 2)] [])
  (.block 0 (.loop c97B0)))
  (.seq (.region [(.move (.k (.int .i64 (-1))), none)] [(4, 0)] [])
  .ret))) }
/- slices.Backward[[]canopy/api.Step,canopy/api.Step]$1 -/
def c98B0 : C := (.seq (.seq (.region [(.move (.r 3), none),
    (.bin .geq .other (.l 0) (.k (.int .i64 0)), none)] [(8, 1)] [])
  (.cond (.r 8) .skip
   (.exit 0)))
  (.seq (.block 1 (.seq (.region [(.move (.r 0), none),
    (.move (.r 3), none),
    (.load none (.r 1), none),
    (.move (.r 3), none),
    (.iaddr 6 (.l 2) (.l 3), none),
    (.load (some 6) (.l 4), none),
    (.callv (.l 0) [(.l 1), (.l 5)], none),
    (.un .not (.l 6), none)] [(18, 7)] [])
  (.cond (.r 18) .ret
   .skip)))
  (.region [(.move (.r 3), none),
    (.bin .sub .other (.l 0) (.k (.int .i64 1)), none),
    (.move (.l 1), none)] [(3, 2)] [])))
def c98 : AFn := { results := [], body := (.seq (.region [(.load none (.r 1), none),
    (.len .sl (.l 0), none),
    (.bin .sub .other (.l 1) (.k (.int .i64 1)), none),
    (.move (.l 2), none)] [(3, 3)] [])
  (.block 0 (.loop c98B0))) }
def sh (f : FuncId) : Bool := [60, 77, 78, 83, 87, 94, 96, 97, 98].contains f
def fns : FuncId → Option AFn
  | 8 => some c8
  | 9 => some c9
  | 10 => some c10
  | 11 => some c11
  | 12 => some c12
  | 13 => some c13
  | 14 => some c14
  | 15 => some c15
  | 16 => some c16
  | 20 => some c20
  | 21 => some c21
  | 22 => some c22
  | 25 => some c25
  | 26 => some c26
  | 34 => some c34
  | 35 => some c35
  | 36 => some c36
  | 37 => some c37
  | 38 => some c38
  | 39 => some c39
  | 40 => some c40
  | 41 => some c41
  | 42 => some c42
  | 43 => some c43
  | 44 => some c44
  | 45 => some c45
  | 46 => some c46
  | 47 => some c47
  | 48 => some c48
  | 49 => some c49
  | 50 => some c50
  | 51 => some c51
  | 52 => some c52
  | 53 => some c53
  | 54 => some c54
  | 55 => some c55
  | 56 => some c56
  | 57 => some c57
  | 59 => some c59
  | 60 => some c60
  | 63 => some c63
  | 64 => some c64
  | 65 => some c65
  | 66 => some c66
  | 70 => some c70
  | 71 => some c71
  | 72 => some c72
  | 73 => some c73
  | 74 => some c74
  | 75 => some c75
  | 76 => some c76
  | 77 => some c77
  | 78 => some c78
  | 79 => some c79
  | 80 => some c80
  | 81 => some c81
  | 82 => some c82
  | 83 => some c83
  | 84 => some c84
  | 85 => some c85
  | 86 => some c86
  | 87 => some c87
  | 88 => some c88
  | 89 => some c89
  | 90 => some c90
  | 91 => some c91
  | 92 => some c92
  | 93 => some c93
  | 94 => some c94
  | 95 => some c95
  | 96 => some c96
  | 97 => some c97
  | 98 => some c98
  | _ => none
def prog : AProg := { fns := fns, sh := sh }
theorem sh8 : prog.sh 8 = false := rfl
theorem sh9 : prog.sh 9 = false := rfl
theorem sh10 : prog.sh 10 = false := rfl
theorem sh11 : prog.sh 11 = false := rfl
theorem sh12 : prog.sh 12 = false := rfl
theorem sh13 : prog.sh 13 = false := rfl
theorem sh14 : prog.sh 14 = false := rfl
theorem sh15 : prog.sh 15 = false := rfl
theorem sh16 : prog.sh 16 = false := rfl
theorem sh20 : prog.sh 20 = false := rfl
theorem sh21 : prog.sh 21 = false := rfl
theorem sh22 : prog.sh 22 = false := rfl
theorem sh25 : prog.sh 25 = false := rfl
theorem sh26 : prog.sh 26 = false := rfl
theorem sh34 : prog.sh 34 = false := rfl
theorem sh35 : prog.sh 35 = false := rfl
theorem sh36 : prog.sh 36 = false := rfl
theorem sh37 : prog.sh 37 = false := rfl
theorem sh38 : prog.sh 38 = false := rfl
theorem sh39 : prog.sh 39 = false := rfl
theorem sh40 : prog.sh 40 = false := rfl
theorem sh41 : prog.sh 41 = false := rfl
theorem sh42 : prog.sh 42 = false := rfl
theorem sh43 : prog.sh 43 = false := rfl
theorem sh44 : prog.sh 44 = false := rfl
theorem sh45 : prog.sh 45 = false := rfl
theorem sh46 : prog.sh 46 = false := rfl
theorem sh47 : prog.sh 47 = false := rfl
theorem sh48 : prog.sh 48 = false := rfl
theorem sh49 : prog.sh 49 = false := rfl
theorem sh50 : prog.sh 50 = false := rfl
theorem sh51 : prog.sh 51 = false := rfl
theorem sh52 : prog.sh 52 = false := rfl
theorem sh53 : prog.sh 53 = false := rfl
theorem sh54 : prog.sh 54 = false := rfl
theorem sh55 : prog.sh 55 = false := rfl
theorem sh56 : prog.sh 56 = false := rfl
theorem sh57 : prog.sh 57 = false := rfl
theorem sh59 : prog.sh 59 = false := rfl
theorem sh60 : prog.sh 60 = true := rfl
theorem sh63 : prog.sh 63 = false := rfl
theorem sh64 : prog.sh 64 = false := rfl
theorem sh65 : prog.sh 65 = false := rfl
theorem sh66 : prog.sh 66 = false := rfl
theorem sh70 : prog.sh 70 = false := rfl
theorem sh71 : prog.sh 71 = false := rfl
theorem sh72 : prog.sh 72 = false := rfl
theorem sh73 : prog.sh 73 = false := rfl
theorem sh74 : prog.sh 74 = false := rfl
theorem sh75 : prog.sh 75 = false := rfl
theorem sh76 : prog.sh 76 = false := rfl
theorem sh77 : prog.sh 77 = true := rfl
theorem sh78 : prog.sh 78 = true := rfl
theorem sh79 : prog.sh 79 = false := rfl
theorem sh80 : prog.sh 80 = false := rfl
theorem sh81 : prog.sh 81 = false := rfl
theorem sh82 : prog.sh 82 = false := rfl
theorem sh83 : prog.sh 83 = true := rfl
theorem sh84 : prog.sh 84 = false := rfl
theorem sh85 : prog.sh 85 = false := rfl
theorem sh86 : prog.sh 86 = false := rfl
theorem sh87 : prog.sh 87 = true := rfl
theorem sh88 : prog.sh 88 = false := rfl
theorem sh89 : prog.sh 89 = false := rfl
theorem sh90 : prog.sh 90 = false := rfl
theorem sh91 : prog.sh 91 = false := rfl
theorem sh92 : prog.sh 92 = false := rfl
theorem sh93 : prog.sh 93 = false := rfl
theorem sh94 : prog.sh 94 = true := rfl
theorem sh95 : prog.sh 95 = false := rfl
theorem sh96 : prog.sh 96 = true := rfl
theorem sh97 : prog.sh 97 = true := rfl
theorem sh98 : prog.sh 98 = true := rfl
theorem call8 {fr : Nat} {env r : Regs} {h : Heap} {args : List Opd} : evalOp (ans prog) prog.sh fr env r h (.call 8 args) = callD prog 8 (resL (res 8) h (args.map (opd env r))) := evalOp_call sh8
theorem call9 {fr : Nat} {env r : Regs} {h : Heap} {args : List Opd} : evalOp (ans prog) prog.sh fr env r h (.call 9 args) = callD prog 9 (resL (res 8) h (args.map (opd env r))) := evalOp_call sh9
theorem call10 {fr : Nat} {env r : Regs} {h : Heap} {args : List Opd} : evalOp (ans prog) prog.sh fr env r h (.call 10 args) = callD prog 10 (resL (res 8) h (args.map (opd env r))) := evalOp_call sh10
theorem call11 {fr : Nat} {env r : Regs} {h : Heap} {args : List Opd} : evalOp (ans prog) prog.sh fr env r h (.call 11 args) = callD prog 11 (resL (res 8) h (args.map (opd env r))) := evalOp_call sh11
theorem call12 {fr : Nat} {env r : Regs} {h : Heap} {args : List Opd} : evalOp (ans prog) prog.sh fr env r h (.call 12 args) = callD prog 12 (resL (res 8) h (args.map (opd env r))) := evalOp_call sh12
theorem call13 {fr : Nat} {env r : Regs} {h : Heap} {args : List Opd} : evalOp (ans prog) prog.sh fr env r h (.call 13 args) = callD prog 13 (resL (res 8) h (args.map (opd env r))) := evalOp_call sh13
theorem call14 {fr : Nat} {env r : Regs} {h : Heap} {args : List Opd} : evalOp (ans prog) prog.sh fr env r h (.call 14 args) = callD prog 14 (resL (res 8) h (args.map (opd env r))) := evalOp_call sh14
theorem call15 {fr : Nat} {env r : Regs} {h : Heap} {args : List Opd} : evalOp (ans prog) prog.sh fr env r h (.call 15 args) = callD prog 15 (resL (res 8) h (args.map (opd env r))) := evalOp_call sh15
theorem call16 {fr : Nat} {env r : Regs} {h : Heap} {args : List Opd} : evalOp (ans prog) prog.sh fr env r h (.call 16 args) = callD prog 16 (resL (res 8) h (args.map (opd env r))) := evalOp_call sh16
theorem call20 {fr : Nat} {env r : Regs} {h : Heap} {args : List Opd} : evalOp (ans prog) prog.sh fr env r h (.call 20 args) = callD prog 20 (resL (res 8) h (args.map (opd env r))) := evalOp_call sh20
theorem call21 {fr : Nat} {env r : Regs} {h : Heap} {args : List Opd} : evalOp (ans prog) prog.sh fr env r h (.call 21 args) = callD prog 21 (resL (res 8) h (args.map (opd env r))) := evalOp_call sh21
theorem call22 {fr : Nat} {env r : Regs} {h : Heap} {args : List Opd} : evalOp (ans prog) prog.sh fr env r h (.call 22 args) = callD prog 22 (resL (res 8) h (args.map (opd env r))) := evalOp_call sh22
theorem call25 {fr : Nat} {env r : Regs} {h : Heap} {args : List Opd} : evalOp (ans prog) prog.sh fr env r h (.call 25 args) = callD prog 25 (resL (res 8) h (args.map (opd env r))) := evalOp_call sh25
theorem call26 {fr : Nat} {env r : Regs} {h : Heap} {args : List Opd} : evalOp (ans prog) prog.sh fr env r h (.call 26 args) = callD prog 26 (resL (res 8) h (args.map (opd env r))) := evalOp_call sh26
theorem call34 {fr : Nat} {env r : Regs} {h : Heap} {args : List Opd} : evalOp (ans prog) prog.sh fr env r h (.call 34 args) = callD prog 34 (resL (res 8) h (args.map (opd env r))) := evalOp_call sh34
theorem call35 {fr : Nat} {env r : Regs} {h : Heap} {args : List Opd} : evalOp (ans prog) prog.sh fr env r h (.call 35 args) = callD prog 35 (resL (res 8) h (args.map (opd env r))) := evalOp_call sh35
theorem call36 {fr : Nat} {env r : Regs} {h : Heap} {args : List Opd} : evalOp (ans prog) prog.sh fr env r h (.call 36 args) = callD prog 36 (resL (res 8) h (args.map (opd env r))) := evalOp_call sh36
theorem call37 {fr : Nat} {env r : Regs} {h : Heap} {args : List Opd} : evalOp (ans prog) prog.sh fr env r h (.call 37 args) = callD prog 37 (resL (res 8) h (args.map (opd env r))) := evalOp_call sh37
theorem call38 {fr : Nat} {env r : Regs} {h : Heap} {args : List Opd} : evalOp (ans prog) prog.sh fr env r h (.call 38 args) = callD prog 38 (resL (res 8) h (args.map (opd env r))) := evalOp_call sh38
theorem call39 {fr : Nat} {env r : Regs} {h : Heap} {args : List Opd} : evalOp (ans prog) prog.sh fr env r h (.call 39 args) = callD prog 39 (resL (res 8) h (args.map (opd env r))) := evalOp_call sh39
theorem call40 {fr : Nat} {env r : Regs} {h : Heap} {args : List Opd} : evalOp (ans prog) prog.sh fr env r h (.call 40 args) = callD prog 40 (resL (res 8) h (args.map (opd env r))) := evalOp_call sh40
theorem call41 {fr : Nat} {env r : Regs} {h : Heap} {args : List Opd} : evalOp (ans prog) prog.sh fr env r h (.call 41 args) = callD prog 41 (resL (res 8) h (args.map (opd env r))) := evalOp_call sh41
theorem call42 {fr : Nat} {env r : Regs} {h : Heap} {args : List Opd} : evalOp (ans prog) prog.sh fr env r h (.call 42 args) = callD prog 42 (resL (res 8) h (args.map (opd env r))) := evalOp_call sh42
theorem call43 {fr : Nat} {env r : Regs} {h : Heap} {args : List Opd} : evalOp (ans prog) prog.sh fr env r h (.call 43 args) = callD prog 43 (resL (res 8) h (args.map (opd env r))) := evalOp_call sh43
theorem call44 {fr : Nat} {env r : Regs} {h : Heap} {args : List Opd} : evalOp (ans prog) prog.sh fr env r h (.call 44 args) = callD prog 44 (resL (res 8) h (args.map (opd env r))) := evalOp_call sh44
theorem call45 {fr : Nat} {env r : Regs} {h : Heap} {args : List Opd} : evalOp (ans prog) prog.sh fr env r h (.call 45 args) = callD prog 45 (resL (res 8) h (args.map (opd env r))) := evalOp_call sh45
theorem call46 {fr : Nat} {env r : Regs} {h : Heap} {args : List Opd} : evalOp (ans prog) prog.sh fr env r h (.call 46 args) = callD prog 46 (resL (res 8) h (args.map (opd env r))) := evalOp_call sh46
theorem call47 {fr : Nat} {env r : Regs} {h : Heap} {args : List Opd} : evalOp (ans prog) prog.sh fr env r h (.call 47 args) = callD prog 47 (resL (res 8) h (args.map (opd env r))) := evalOp_call sh47
theorem call48 {fr : Nat} {env r : Regs} {h : Heap} {args : List Opd} : evalOp (ans prog) prog.sh fr env r h (.call 48 args) = callD prog 48 (resL (res 8) h (args.map (opd env r))) := evalOp_call sh48
theorem call49 {fr : Nat} {env r : Regs} {h : Heap} {args : List Opd} : evalOp (ans prog) prog.sh fr env r h (.call 49 args) = callD prog 49 (resL (res 8) h (args.map (opd env r))) := evalOp_call sh49
theorem call50 {fr : Nat} {env r : Regs} {h : Heap} {args : List Opd} : evalOp (ans prog) prog.sh fr env r h (.call 50 args) = callD prog 50 (resL (res 8) h (args.map (opd env r))) := evalOp_call sh50
theorem call51 {fr : Nat} {env r : Regs} {h : Heap} {args : List Opd} : evalOp (ans prog) prog.sh fr env r h (.call 51 args) = callD prog 51 (resL (res 8) h (args.map (opd env r))) := evalOp_call sh51
theorem call52 {fr : Nat} {env r : Regs} {h : Heap} {args : List Opd} : evalOp (ans prog) prog.sh fr env r h (.call 52 args) = callD prog 52 (resL (res 8) h (args.map (opd env r))) := evalOp_call sh52
theorem call53 {fr : Nat} {env r : Regs} {h : Heap} {args : List Opd} : evalOp (ans prog) prog.sh fr env r h (.call 53 args) = callD prog 53 (resL (res 8) h (args.map (opd env r))) := evalOp_call sh53
theorem call54 {fr : Nat} {env r : Regs} {h : Heap} {args : List Opd} : evalOp (ans prog) prog.sh fr env r h (.call 54 args) = callD prog 54 (resL (res 8) h (args.map (opd env r))) := evalOp_call sh54
theorem call55 {fr : Nat} {env r : Regs} {h : Heap} {args : List Opd} : evalOp (ans prog) prog.sh fr env r h (.call 55 args) = callD prog 55 (resL (res 8) h (args.map (opd env r))) := evalOp_call sh55
theorem call56 {fr : Nat} {env r : Regs} {h : Heap} {args : List Opd} : evalOp (ans prog) prog.sh fr env r h (.call 56 args) = callD prog 56 (resL (res 8) h (args.map (opd env r))) := evalOp_call sh56
theorem call57 {fr : Nat} {env r : Regs} {h : Heap} {args : List Opd} : evalOp (ans prog) prog.sh fr env r h (.call 57 args) = callD prog 57 (resL (res 8) h (args.map (opd env r))) := evalOp_call sh57
theorem call59 {fr : Nat} {env r : Regs} {h : Heap} {args : List Opd} : evalOp (ans prog) prog.sh fr env r h (.call 59 args) = callD prog 59 (resL (res 8) h (args.map (opd env r))) := evalOp_call sh59
theorem call60 {fr : Nat} {env r : Regs} {h : Heap} {args : List Opd} : evalOp (ans prog) prog.sh fr env r h (.call 60 args) = ans prog (.d (.fn 60)) (args.map (opd env r)) h := evalOp_callsh sh60
theorem call63 {fr : Nat} {env r : Regs} {h : Heap} {args : List Opd} : evalOp (ans prog) prog.sh fr env r h (.call 63 args) = callD prog 63 (resL (res 8) h (args.map (opd env r))) := evalOp_call sh63
theorem call64 {fr : Nat} {env r : Regs} {h : Heap} {args : List Opd} : evalOp (ans prog) prog.sh fr env r h (.call 64 args) = callD prog 64 (resL (res 8) h (args.map (opd env r))) := evalOp_call sh64
theorem call65 {fr : Nat} {env r : Regs} {h : Heap} {args : List Opd} : evalOp (ans prog) prog.sh fr env r h (.call 65 args) = callD prog 65 (resL (res 8) h (args.map (opd env r))) := evalOp_call sh65
theorem call66 {fr : Nat} {env r : Regs} {h : Heap} {args : List Opd} : evalOp (ans prog) prog.sh fr env r h (.call 66 args) = callD prog 66 (resL (res 8) h (args.map (opd env r))) := evalOp_call sh66
theorem call70 {fr : Nat} {env r : Regs} {h : Heap} {args : List Opd} : evalOp (ans prog) prog.sh fr env r h (.call 70 args) = callD prog 70 (resL (res 8) h (args.map (opd env r))) := evalOp_call sh70
theorem call71 {fr : Nat} {env r : Regs} {h : Heap} {args : List Opd} : evalOp (ans prog) prog.sh fr env r h (.call 71 args) = callD prog 71 (resL (res 8) h (args.map (opd env r))) := evalOp_call sh71
theorem call72 {fr : Nat} {env r : Regs} {h : Heap} {args : List Opd} : evalOp (ans prog) prog.sh fr env r h (.call 72 args) = callD prog 72 (resL (res 8) h (args.map (opd env r))) := evalOp_call sh72
theorem call73 {fr : Nat} {env r : Regs} {h : Heap} {args : List Opd} : evalOp (ans prog) prog.sh fr env r h (.call 73 args) = callD prog 73 (resL (res 8) h (args.map (opd env r))) := evalOp_call sh73
theorem call74 {fr : Nat} {env r : Regs} {h : Heap} {args : List Opd} : evalOp (ans prog) prog.sh fr env r h (.call 74 args) = callD prog 74 (resL (res 8) h (args.map (opd env r))) := evalOp_call sh74
theorem call75 {fr : Nat} {env r : Regs} {h : Heap} {args : List Opd} : evalOp (ans prog) prog.sh fr env r h (.call 75 args) = callD prog 75 (resL (res 8) h (args.map (opd env r))) := evalOp_call sh75
theorem call76 {fr : Nat} {env r : Regs} {h : Heap} {args : List Opd} : evalOp (ans prog) prog.sh fr env r h (.call 76 args) = callD prog 76 (resL (res 8) h (args.map (opd env r))) := evalOp_call sh76
theorem call77 {fr : Nat} {env r : Regs} {h : Heap} {args : List Opd} : evalOp (ans prog) prog.sh fr env r h (.call 77 args) = ans prog (.d (.fn 77)) (args.map (opd env r)) h := evalOp_callsh sh77
theorem call78 {fr : Nat} {env r : Regs} {h : Heap} {args : List Opd} : evalOp (ans prog) prog.sh fr env r h (.call 78 args) = ans prog (.d (.fn 78)) (args.map (opd env r)) h := evalOp_callsh sh78
theorem call79 {fr : Nat} {env r : Regs} {h : Heap} {args : List Opd} : evalOp (ans prog) prog.sh fr env r h (.call 79 args) = callD prog 79 (resL (res 8) h (args.map (opd env r))) := evalOp_call sh79
theorem call80 {fr : Nat} {env r : Regs} {h : Heap} {args : List Opd} : evalOp (ans prog) prog.sh fr env r h (.call 80 args) = callD prog 80 (resL (res 8) h (args.map (opd env r))) := evalOp_call sh80
theorem call81 {fr : Nat} {env r : Regs} {h : Heap} {args : List Opd} : evalOp (ans prog) prog.sh fr env r h (.call 81 args) = callD prog 81 (resL (res 8) h (args.map (opd env r))) := evalOp_call sh81
theorem call82 {fr : Nat} {env r : Regs} {h : Heap} {args : List Opd} : evalOp (ans prog) prog.sh fr env r h (.call 82 args) = callD prog 82 (resL (res 8) h (args.map (opd env r))) := evalOp_call sh82
theorem call83 {fr : Nat} {env r : Regs} {h : Heap} {args : List Opd} : evalOp (ans prog) prog.sh fr env r h (.call 83 args) = ans prog (.d (.fn 83)) (args.map (opd env r)) h := evalOp_callsh sh83
theorem call84 {fr : Nat} {env r : Regs} {h : Heap} {args : List Opd} : evalOp (ans prog) prog.sh fr env r h (.call 84 args) = callD prog 84 (resL (res 8) h (args.map (opd env r))) := evalOp_call sh84
theorem call85 {fr : Nat} {env r : Regs} {h : Heap} {args : List Opd} : evalOp (ans prog) prog.sh fr env r h (.call 85 args) = callD prog 85 (resL (res 8) h (args.map (opd env r))) := evalOp_call sh85
theorem call86 {fr : Nat} {env r : Regs} {h : Heap} {args : List Opd} : evalOp (ans prog) prog.sh fr env r h (.call 86 args) = callD prog 86 (resL (res 8) h (args.map (opd env r))) := evalOp_call sh86
theorem call87 {fr : Nat} {env r : Regs} {h : Heap} {args : List Opd} : evalOp (ans prog) prog.sh fr env r h (.call 87 args) = ans prog (.d (.fn 87)) (args.map (opd env r)) h := evalOp_callsh sh87
theorem call88 {fr : Nat} {env r : Regs} {h : Heap} {args : List Opd} : evalOp (ans prog) prog.sh fr env r h (.call 88 args) = callD prog 88 (resL (res 8) h (args.map (opd env r))) := evalOp_call sh88
theorem call89 {fr : Nat} {env r : Regs} {h : Heap} {args : List Opd} : evalOp (ans prog) prog.sh fr env r h (.call 89 args) = callD prog 89 (resL (res 8) h (args.map (opd env r))) := evalOp_call sh89
theorem call90 {fr : Nat} {env r : Regs} {h : Heap} {args : List Opd} : evalOp (ans prog) prog.sh fr env r h (.call 90 args) = callD prog 90 (resL (res 8) h (args.map (opd env r))) := evalOp_call sh90
theorem call91 {fr : Nat} {env r : Regs} {h : Heap} {args : List Opd} : evalOp (ans prog) prog.sh fr env r h (.call 91 args) = callD prog 91 (resL (res 8) h (args.map (opd env r))) := evalOp_call sh91
theorem call92 {fr : Nat} {env r : Regs} {h : Heap} {args : List Opd} : evalOp (ans prog) prog.sh fr env r h (.call 92 args) = callD prog 92 (resL (res 8) h (args.map (opd env r))) := evalOp_call sh92
theorem call93 {fr : Nat} {env r : Regs} {h : Heap} {args : List Opd} : evalOp (ans prog) prog.sh fr env r h (.call 93 args) = callD prog 93 (resL (res 8) h (args.map (opd env r))) := evalOp_call sh93
theorem call94 {fr : Nat} {env r : Regs} {h : Heap} {args : List Opd} : evalOp (ans prog) prog.sh fr env r h (.call 94 args) = ans prog (.d (.fn 94)) (args.map (opd env r)) h := evalOp_callsh sh94
theorem call95 {fr : Nat} {env r : Regs} {h : Heap} {args : List Opd} : evalOp (ans prog) prog.sh fr env r h (.call 95 args) = callD prog 95 (resL (res 8) h (args.map (opd env r))) := evalOp_call sh95
theorem call96 {fr : Nat} {env r : Regs} {h : Heap} {args : List Opd} : evalOp (ans prog) prog.sh fr env r h (.call 96 args) = ans prog (.d (.fn 96)) (args.map (opd env r)) h := evalOp_callsh sh96
theorem call97 {fr : Nat} {env r : Regs} {h : Heap} {args : List Opd} : evalOp (ans prog) prog.sh fr env r h (.call 97 args) = ans prog (.d (.fn 97)) (args.map (opd env r)) h := evalOp_callsh sh97
theorem call98 {fr : Nat} {env r : Regs} {h : Heap} {args : List Opd} : evalOp (ans prog) prog.sh fr env r h (.call 98 args) = ans prog (.d (.fn 98)) (args.map (opd env r)) h := evalOp_callsh sh98
attribute [go_sem] call8 call9 call10 call11 call12 call13 call14 call15 call16 call20 call21 call22 call25 call26 call34 call35 call36 call37 call38 call39 call40 call41 call42 call43 call44 call45 call46 call47 call48 call49 call50 call51 call52 call53 call54 call55 call56 call57 call59 call60 call63 call64 call65 call66 call70 call71 call72 call73 call74 call75 call76 call77 call78 call79 call80 call81 call82 call83 call84 call85 call86 call87 call88 call89 call90 call91 call92 call93 call94 call95 call96 call97 call98
end Go.Proofs.Ytnijbejobbajfaa.D
