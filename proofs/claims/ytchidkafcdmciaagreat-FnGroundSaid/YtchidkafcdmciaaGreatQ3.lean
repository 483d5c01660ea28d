/- made by mk2.py: the code of the functions, and the checks against the program's own form. -/
import Derived.Test.YtchidkafcdmciaaGreatProg
import Derived.Shelf.Sort.Plain
import Derived.Shelf.SlSortFuncK.WholeK
import Derived.Ground.NamesProg
import Derived.Ground.GgsProg
import Derived.Sort.OwnSortedInts
import Derived.Lib.OwnBridge
import Derived.Test.YtchidkafcdmciaaGreatQ2
set_option linter.all false
namespace Go.Proofs.YtchidkafcdmciaaGreat
open Go Go.Pv
/-- laws.FnMatching -/
def c_laws_FnMatching : C :=
  (.seq (.region [⟨none, .s (.v 2 (.mov (.c (.bool false))))⟩])
  (.seq (.seq (.region [⟨none, .s (.v 16 (.mov (.t 0)))⟩,
    ⟨none, .s (.v 17 (.len (.t 16)))⟩,
    ⟨none, .s (.v 18 (.bin .gtr false (.t 17) (.c (.int .i64 1048576))))⟩])
  (.cond (.t 18)
    (.seq (.region [⟨none, .s (.v 2 (.mov (.c (.bool true))))⟩])
    .ret)
    .skip))
  (.seq (.region [⟨none, .s (.v 19 (.mov (.t 0)))⟩,
    ⟨none, .call (some 20) (.c (.func 8 [])) [(.t 19), (.c (.int .i64 0)), (.c (.int .i64 8)), (.c (.int .i64 4))]⟩,
    ⟨none, .s (.alloc 3 none (.agg [.int .i64 0, .int .i64 0, .str [], .slice 4 .nil []]))⟩,
    ⟨none, .s (.store 4 (.t 3) (.t 20))⟩])
  (.seq (.region [⟨none, .s (.v 21 (.mov (.t 0)))⟩,
    ⟨none, .call (some 22) (.c (.func 19 [])) [(.t 21), (.c (.int .i64 20)), (.c (.int .i64 4))]⟩,
    ⟨none, .s (.v 4 (.mov (.t 22)))⟩])
  (.seq (.region [⟨none, .s (.v 24 (.load true 4 (.t 3)))⟩,
    ⟨none, .s (.v 25 (.mov (.t 4)))⟩,
    ⟨none, .call (some 26) (.c (.func 20 [])) [(.t 24), (.t 25)]⟩,
    ⟨none, .s (.v 23 (.mov (.t 26)))⟩,
    ⟨none, .s (.v 27 (.ext 0 (.t 23)))⟩,
    ⟨none, .s (.v 28 (.ext 1 (.t 23)))⟩,
    ⟨none, .s (.alloc 5 none (.agg [.int .i64 0, .int .i64 0, .str [], .slice 4 .nil []]))⟩,
    ⟨none, .s (.store 4 (.t 5) (.t 27))⟩,
    ⟨none, .s (.v 6 (.mov (.t 28)))⟩])
  (.seq (.region [⟨none, .s (.v 30 (.load true 4 (.t 3)))⟩,
    ⟨none, .s (.v 31 (.load true 4 (.t 5)))⟩,
    ⟨none, .call (some 32) (.c (.func 21 [])) [(.t 30), (.t 31)]⟩,
    ⟨none, .s (.v 29 (.mov (.t 32)))⟩,
    ⟨none, .s (.v 33 (.ext 0 (.t 29)))⟩,
    ⟨none, .s (.v 34 (.ext 1 (.t 29)))⟩,
    ⟨none, .s (.v 7 (.mov (.t 33)))⟩,
    ⟨none, .s (.v 8 (.mov (.t 34)))⟩])
  (.seq (.seq (.drawn true 134 [⟨none, .s (.v 35 (.mov (.t 6)))⟩,
    ⟨none, .s (.v 36 (.notB (.t 35)))⟩,
    ⟨none, .s (.v 37 (.mov (.t 36)))⟩,
    ⟨(some (37, false)), .s (.v 38 (.load true 4 (.t 5)))⟩,
    ⟨(some (37, false)), .s (.v 39 (.load true 4 (.t 3)))⟩,
    ⟨(some (37, false)), .s (.v 40 (.mov (.t 4)))⟩,
    ⟨(some (37, false)), .call (some 41) (.c (.func 9 [])) [(.t 39), (.t 40)]⟩,
    ⟨(some (37, false)), .call (some 42) (.c (.func 15 [])) [(.t 38), (.t 41)]⟩,
    ⟨(some (37, false)), .s (.v 43 (.notB (.t 42)))⟩,
    ⟨none, .s (.v 44 (.pick (.t 37) (.c (.bool true)) (.t 43)))⟩,
    ⟨none, .s (.v 45 (.mov (.t 44)))⟩,
    ⟨(some (45, false)), .s (.v 46 (.mov (.t 8)))⟩,
    ⟨(some (45, false)), .s (.v 47 (.notB (.t 46)))⟩,
    ⟨none, .s (.v 48 (.pick (.t 45) (.c (.bool true)) (.t 47)))⟩,
    ⟨none, .s (.v 49 (.mov (.t 48)))⟩,
    ⟨(some (49, false)), .s (.v 50 (.load true 4 (.t 5)))⟩,
    ⟨(some (49, false)), .s (.v 51 (.load true 4 (.t 3)))⟩,
    ⟨(some (49, false)), .call (some 52) (.c (.func 13 [])) [(.t 50), (.t 51)]⟩,
    ⟨(some (49, false)), .s (.v 53 (.notB (.t 52)))⟩,
    ⟨none, .s (.v 54 (.pick (.t 49) (.c (.bool true)) (.t 53)))⟩,
    ⟨none, .s (.v 55 (.mov (.t 54)))⟩,
    ⟨(some (55, false)), .s (.v 56 (.mov (.t 7)))⟩,
    ⟨(some (55, false)), .call (some 57) (.c (.func 22 [])) [(.t 56)]⟩,
    ⟨(some (55, false)), .s (.v 58 (.notB (.t 57)))⟩,
    ⟨none, .s (.v 59 (.pick (.t 55) (.c (.bool true)) (.t 58)))⟩])
  (.cond (.t 59)
    (.seq (.region [⟨none, .s (.v 2 (.mov (.c (.bool false))))⟩])
    .ret)
    .skip))
  (.seq (.seq (.region [⟨none, .s (.v 60 (.mov (.t 7)))⟩,
    ⟨none, .s (.v 61 (.len (.t 60)))⟩,
    ⟨none, .s (.v 62 (.mov (.c (.int .i64 0))))⟩])
  (.block 0 
    (.loop 
      (.seq (.region [⟨none, .s (.v 63 (.bin .lss false (.t 62) (.t 61)))⟩])
      (.seq (.cond (.t 63)
        .skip
        (.exit 0))
      (.seq (.block 1 
        (.seq (.region [⟨none, .s (.v 64 (.iaddr 5 (.t 60) (.t 62)))⟩,
          ⟨none, .s (.v 65 (.load true 5 (.t 64)))⟩,
          ⟨none, .s (.alloc 10 none (.agg [.int .i64 0, .int .i64 0, .int .i64 0, .str [], .slice 4 .nil []]))⟩,
          ⟨none, .s (.store 5 (.t 10) (.t 65))⟩])
        (.seq (.drawn true 134 [⟨none, .s (.v 66 (.faddr 0 false 1 (.t 10)))⟩,
          ⟨none, .s (.v 67 (.load false 1 (.t 66)))⟩,
          ⟨none, .s (.v 68 (.bin .lss false (.t 67) (.c (.int .i64 0))))⟩,
          ⟨none, .s (.v 69 (.mov (.t 68)))⟩,
          ⟨(some (69, false)), .s (.v 70 (.faddr 0 false 1 (.t 10)))⟩,
          ⟨(some (69, false)), .s (.v 71 (.load false 1 (.t 70)))⟩,
          ⟨(some (69, false)), .s (.v 72 (.bin .gtr false (.t 71) (.c (.int .i64 3))))⟩,
          ⟨none, .s (.v 73 (.pick (.t 69) (.c (.bool true)) (.t 72)))⟩,
          ⟨none, .s (.v 74 (.mov (.t 73)))⟩,
          ⟨(some (74, false)), .s (.v 75 (.faddr 1 true 4 (.t 10)))⟩,
          ⟨(some (74, false)), .s (.v 76 (.load true 4 (.t 75)))⟩,
          ⟨(some (74, false)), .s (.v 77 (.mov (.t 4)))⟩,
          ⟨(some (74, false)), .s (.v 78 (.faddr 0 false 1 (.t 10)))⟩,
          ⟨(some (74, false)), .s (.v 79 (.load false 1 (.t 78)))⟩,
          ⟨(some (74, false)), .s (.v 80 (.iaddr 5 (.t 77) (.t 79)))⟩,
          ⟨(some (74, false)), .s (.v 81 (.faddr 1 true 4 (.t 80)))⟩,
          ⟨(some (74, false)), .s (.v 82 (.load true 4 (.t 81)))⟩,
          ⟨(some (74, false)), .call (some 83) (.c (.func 15 [])) [(.t 76), (.t 82)]⟩,
          ⟨(some (74, false)), .s (.v 84 (.notB (.t 83)))⟩,
          ⟨none, .s (.v 85 (.pick (.t 74) (.c (.bool true)) (.t 84)))⟩,
          ⟨none, .s (.v 86 (.mov (.t 85)))⟩,
          ⟨(some (86, false)), .s (.v 87 (.faddr 0 false 1 (.t 10)))⟩,
          ⟨(some (86, false)), .s (.v 88 (.load false 1 (.t 87)))⟩,
          ⟨(some (86, false)), .s (.v 89 (.load true 4 (.t 3)))⟩,
          ⟨(some (86, false)), .call (some 90) (.c (.func 23 [])) [(.t 88), (.t 89)]⟩,
          ⟨(some (86, false)), .s (.v 91 (.notB (.t 90)))⟩,
          ⟨none, .s (.v 92 (.pick (.t 86) (.c (.bool true)) (.t 91)))⟩])
        (.cond (.t 92)
          (.seq (.region [⟨none, .s (.v 2 (.mov (.c (.bool false))))⟩])
          .ret)
          .skip))))
      (.region [⟨none, .s (.v 93 (.bin .add false (.t 62) (.c (.int .i64 1))))⟩,
        ⟨none, .s (.v 62 (.mov (.t 93)))⟩])))))))
  (.seq (.region [⟨none, .s (.v 94 (.mov (.t 0)))⟩,
    ⟨none, .s (.v 95 (.load true 4 (.t 5)))⟩,
    ⟨none, .call (some 96) (.c (.func 24 [])) [(.t 94), (.c (.int .i64 40)), (.t 95), (.c (.int .i64 3))]⟩,
    ⟨none, .s (.alloc 11 none (.agg [.int .i64 0, .int .i64 0, .str [], .slice 4 .nil []]))⟩,
    ⟨none, .s (.store 4 (.t 11) (.t 96))⟩])
  (.seq (.region [⟨none, .s (.v 98 (.load true 4 (.t 3)))⟩,
    ⟨none, .s (.v 99 (.load true 4 (.t 11)))⟩,
    ⟨none, .call (some 100) (.c (.func 21 [])) [(.t 98), (.t 99)]⟩,
    ⟨none, .s (.v 97 (.mov (.t 100)))⟩,
    ⟨none, .s (.v 101 (.ext 0 (.t 97)))⟩,
    ⟨none, .s (.v 102 (.ext 1 (.t 97)))⟩,
    ⟨none, .s (.v 12 (.mov (.t 101)))⟩,
    ⟨none, .s (.v 13 (.mov (.t 102)))⟩])
  (.seq (.region [⟨none, .s (.v 104 (.load true 4 (.t 3)))⟩,
    ⟨none, .s (.v 105 (.mov (.t 12)))⟩,
    ⟨none, .call (some 106) (.c (.func 20 [])) [(.t 104), (.t 105)]⟩,
    ⟨none, .s (.v 103 (.mov (.t 106)))⟩,
    ⟨none, .s (.v 107 (.ext 0 (.t 103)))⟩,
    ⟨none, .s (.v 108 (.ext 1 (.t 103)))⟩,
    ⟨none, .s (.alloc 14 none (.agg [.int .i64 0, .int .i64 0, .str [], .slice 4 .nil []]))⟩,
    ⟨none, .s (.store 4 (.t 14) (.t 107))⟩,
    ⟨none, .s (.v 15 (.mov (.t 108)))⟩])
  (.seq (.region [⟨none, .s (.v 109 (.mov (.t 7)))⟩,
    ⟨none, .s (.v 110 (.len (.t 109)))⟩,
    ⟨none, .s (.v 111 (.load true 4 (.t 3)))⟩,
    ⟨none, .call (some 112) (.c (.func 25 [])) [(.t 111)]⟩,
    ⟨none, .s (.v 113 (.len (.t 112)))⟩,
    ⟨none, .s (.v 114 (.bin .eql false (.t 110) (.t 113)))⟩,
    ⟨none, .s (.v 115 (.mov (.t 114)))⟩,
    ⟨(some (115, true)), .s (.v 116 (.mov (.t 13)))⟩,
    ⟨(some (115, true)), .s (.v 117 (.notB (.t 116)))⟩,
    ⟨(some (115, true)), .s (.v 118 (.mov (.t 117)))⟩,
    ⟨(some (118, false)), .s (.v 119 (.mov (.t 15)))⟩,
    ⟨(some (118, false)), .s (.v 120 (.mov (.t 119)))⟩,
    ⟨(some (120, true)), .s (.v 121 (.load true 4 (.t 14)))⟩,
    ⟨(some (120, true)), .s (.v 122 (.load true 4 (.t 11)))⟩,
    ⟨(some (120, true)), .call (some 123) (.c (.func 15 [])) [(.t 121), (.t 122)]⟩,
    ⟨(some (118, false)), .s (.v 124 (.pick (.t 120) (.t 123) (.c (.bool false))))⟩,
    ⟨(some (115, true)), .s (.v 125 (.pick (.t 118) (.c (.bool true)) (.t 124)))⟩,
    ⟨none, .s (.v 126 (.pick (.t 115) (.t 125) (.c (.bool false))))⟩,
    ⟨none, .s (.v 127 (.mov (.t 126)))⟩,
    ⟨(some (127, true)), .s (.v 128 (.mov (.t 13)))⟩,
    ⟨(some (127, true)), .s (.v 129 (.load true 4 (.t 11)))⟩,
    ⟨(some (127, true)), .s (.v 130 (.load true 4 (.t 3)))⟩,
    ⟨(some (127, true)), .call (some 131) (.c (.func 13 [])) [(.t 129), (.t 130)]⟩,
    ⟨(some (127, true)), .s (.v 132 (.beq false (.t 128) (.t 131)))⟩,
    ⟨none, .s (.v 133 (.pick (.t 127) (.t 132) (.c (.bool false))))⟩,
    ⟨none, .s (.v 2 (.mov (.t 133)))⟩])
  .ret))))))))))))
def r_laws_FnMatching : List RV := [.tmp 2]

/-- spec.MakeTerm -/
def c_spec_MakeTerm : C :=
  (.seq (.region [⟨none, .s (.alloc 8 none (.agg [.int .i64 0, .int .i64 0, .str [], .slice 4 .nil []]))⟩])
  (.seq (.region [⟨none, .s (.v 9 (.mov (.t 0)))⟩,
    ⟨none, .s (.v 10 (.mov (.t 1)))⟩,
    ⟨none, .call (some 11) (.c (.func 50 [])) [(.t 9), (.t 10)]⟩,
    ⟨none, .s (.v 12 (.mov (.t 2)))⟩,
    ⟨none, .s (.v 13 (.mov (.t 3)))⟩,
    ⟨none, .call (some 14) (.c (.func 51 [])) [(.t 11), (.t 12), (.t 13)]⟩,
    ⟨none, .s (.store 4 (.t 8) (.t 14))⟩])
  .ret))
def r_spec_MakeTerm : List RV := [.cell 8 true 4]

/-- spec.MakeValue -/
def c_spec_MakeValue : C :=
  (.seq (.region [⟨none, .s (.box 2 none (.t 0))⟩,
    ⟨none, .s (.alloc 4 none (.agg [.int .i64 0, .int .i64 0, .str [], .slice 4 .nil []]))⟩])
  (.seq (.region [⟨none, .s (.v 5 (.mov (.t 1)))⟩,
    ⟨none, .s (.v 6 (.load true 4 (.t 2)))⟩,
    ⟨none, .call (some 7) (.c (.func 53 [])) [(.t 5), (.t 6)]⟩,
    ⟨none, .call (some 8) (.c (.func 52 [])) [(.t 7)]⟩,
    ⟨none, .s (.store 4 (.t 4) (.t 8))⟩])
  .ret))
def r_spec_MakeValue : List RV := [.cell 4 true 4]

/-- impl.IsInstance -/
def c_impl_IsInstance : C :=
  (.seq (.region [⟨none, .s (.box 2 none (.t 0))⟩,
    ⟨none, .s (.box 3 none (.t 1))⟩,
    ⟨none, .s (.v 4 (.mov (.c (.bool false))))⟩])
  (.seq (.region [⟨none, .s (.mkmap 9 (some 301))⟩,
    ⟨none, .s (.v 5 (.mov (.t 9)))⟩])
  (.seq (.seq (.region [⟨none, .s (.v 10 (.load true 4 (.t 3)))⟩,
    ⟨none, .call (some 11) (.c (.func 54 [])) [(.t 10)]⟩,
    ⟨none, .s (.v 12 (.notB (.t 11)))⟩,
    ⟨none, .s (.v 13 (.mov (.t 12)))⟩,
    ⟨(some (13, false)), .s (.v 14 (.load true 4 (.t 2)))⟩,
    ⟨(some (13, false)), .call (some 15) (.c (.func 54 [])) [(.t 14)]⟩,
    ⟨(some (13, false)), .s (.v 16 (.notB (.t 15)))⟩,
    ⟨none, .s (.v 17 (.pick (.t 13) (.c (.bool true)) (.t 16)))⟩,
    ⟨none, .s (.v 18 (.mov (.t 17)))⟩,
    ⟨(some (18, false)), .s (.v 19 (.load true 4 (.t 3)))⟩,
    ⟨(some (18, false)), .s (.v 20 (.load true 4 (.t 2)))⟩,
    ⟨(some (18, false)), .s (.v 21 (.mov (.t 5)))⟩,
    ⟨(some (18, false)), .call (some 22) (.c (.func 61 [])) [(.t 19), (.t 20), (.t 21)]⟩,
    ⟨(some (18, false)), .s (.v 23 (.notB (.t 22)))⟩,
    ⟨none, .s (.v 24 (.pick (.t 18) (.c (.bool true)) (.t 23)))⟩])
  (.cond (.t 24)
    (.seq (.region [⟨none, .s (.v 4 (.mov (.c (.bool false))))⟩])
    .ret)
    .skip))
  (.seq (.region [⟨none, .s (.v 6 (.mov (.c (.int .i64 0))))⟩])
  (.seq (.seq (.region [⟨none, .s (.v 25 (.mov (.t 5)))⟩,
    ⟨none, .s (.range 26 none (.t 25))⟩])
  (.block 0 
    (.loop 
      (.seq (.region [⟨none, .next 27 (.t 26)⟩,
        ⟨none, .s (.v 28 (.ext 0 (.t 27)))⟩])
      (.seq (.cond (.t 28)
        .skip
        (.exit 0))
      (.block 1 
        (.seq (.region [⟨none, .s (.v 29 (.ment (.t 26)))⟩,
          ⟨none, .s (.v 30 (.ext 0 (.t 29)))⟩,
          ⟨none, .s (.v 31 (.ext 1 (.t 29)))⟩,
          ⟨none, .s (.alloc 8 none (.agg [.int .i64 0, .int .i64 0, .str [], .slice 4 .nil []]))⟩,
          ⟨none, .s (.v 7 (.mov (.t 30)))⟩,
          ⟨none, .s (.store 4 (.t 8) (.t 31))⟩])
        (.seq (.region [⟨none, .s (.v 32 (.faddr 0 false 1 (.t 8)))⟩,
          ⟨none, .s (.v 33 (.load false 1 (.t 32)))⟩,
          ⟨none, .s (.v 34 (.bin .neq false (.t 33) (.c (.int .i64 1))))⟩,
          ⟨none, .s (.v 35 (.mov (.t 34)))⟩,
          ⟨(some (35, false)), .s (.v 36 (.faddr 1 false 1 (.t 8)))⟩,
          ⟨(some (35, false)), .s (.v 37 (.load false 1 (.t 36)))⟩,
          ⟨(some (35, false)), .s (.v 38 (.mov (.t 7)))⟩,
          ⟨(some (35, false)), .s (.v 39 (.bin .neq false (.t 37) (.t 38)))⟩,
          ⟨none, .s (.v 40 (.pick (.t 35) (.c (.bool true)) (.t 39)))⟩])
        (.cond (.t 40)
          (.region [⟨none, .s (.v 41 (.mov (.t 6)))⟩,
            ⟨none, .s (.v 42 (.bin .add false (.t 41) (.c (.int .i64 1))))⟩,
            ⟨none, .s (.v 6 (.mov (.t 42)))⟩])
          .skip)))))))))
  (.seq (.region [⟨none, .s (.v 43 (.mov (.t 6)))⟩,
    ⟨none, .s (.v 44 (.bin .leq false (.t 43) (.c (.int .i64 400))))⟩,
    ⟨none, .s (.v 4 (.mov (.t 44)))⟩])
  .ret))))))
def r_impl_IsInstance : List RV := [.tmp 4]

/-- laws.same -/
def c_laws_same : C :=
  (.seq (.region [⟨none, .s (.box 2 none (.t 0))⟩,
    ⟨none, .s (.box 3 none (.t 1))⟩,
    ⟨none, .s (.v 4 (.mov (.c (.bool false))))⟩])
  (.seq (.seq (.region [⟨none, .s (.v 7 (.faddr 0 false 1 (.t 2)))⟩,
    ⟨none, .s (.v 8 (.load false 1 (.t 7)))⟩,
    ⟨none, .s (.v 9 (.faddr 0 false 1 (.t 3)))⟩,
    ⟨none, .s (.v 10 (.load false 1 (.t 9)))⟩,
    ⟨none, .s (.v 11 (.bin .neq false (.t 8) (.t 10)))⟩,
    ⟨none, .s (.v 12 (.mov (.t 11)))⟩,
    ⟨(some (12, false)), .s (.v 13 (.faddr 1 false 1 (.t 2)))⟩,
    ⟨(some (12, false)), .s (.v 14 (.load false 1 (.t 13)))⟩,
    ⟨(some (12, false)), .s (.v 15 (.faddr 1 false 1 (.t 3)))⟩,
    ⟨(some (12, false)), .s (.v 16 (.load false 1 (.t 15)))⟩,
    ⟨(some (12, false)), .s (.v 17 (.bin .neq false (.t 14) (.t 16)))⟩,
    ⟨none, .s (.v 18 (.pick (.t 12) (.c (.bool true)) (.t 17)))⟩,
    ⟨none, .s (.v 19 (.mov (.t 18)))⟩,
    ⟨(some (19, false)), .s (.v 20 (.faddr 2 false 1 (.t 2)))⟩,
    ⟨(some (19, false)), .s (.v 21 (.load false 1 (.t 20)))⟩,
    ⟨(some (19, false)), .s (.v 22 (.faddr 2 false 1 (.t 3)))⟩,
    ⟨(some (19, false)), .s (.v 23 (.load false 1 (.t 22)))⟩,
    ⟨(some (19, false)), .s (.v 24 (.bin .neq false (.t 21) (.t 23)))⟩,
    ⟨none, .s (.v 25 (.pick (.t 19) (.c (.bool true)) (.t 24)))⟩,
    ⟨none, .s (.v 26 (.mov (.t 25)))⟩,
    ⟨(some (26, false)), .s (.v 27 (.faddr 3 false 1 (.t 2)))⟩,
    ⟨(some (26, false)), .s (.v 28 (.load false 1 (.t 27)))⟩,
    ⟨(some (26, false)), .s (.v 29 (.len (.t 28)))⟩,
    ⟨(some (26, false)), .s (.v 30 (.faddr 3 false 1 (.t 3)))⟩,
    ⟨(some (26, false)), .s (.v 31 (.load false 1 (.t 30)))⟩,
    ⟨(some (26, false)), .s (.v 32 (.len (.t 31)))⟩,
    ⟨(some (26, false)), .s (.v 33 (.bin .neq false (.t 29) (.t 32)))⟩,
    ⟨none, .s (.v 34 (.pick (.t 26) (.c (.bool true)) (.t 33)))⟩])
  (.cond (.t 34)
    (.seq (.region [⟨none, .s (.v 4 (.mov (.c (.bool false))))⟩])
    .ret)
    .skip))
  (.seq (.seq (.region [⟨none, .s (.v 35 (.faddr 3 false 1 (.t 2)))⟩,
    ⟨none, .s (.v 36 (.load false 1 (.t 35)))⟩,
    ⟨none, .s (.v 37 (.len (.t 36)))⟩,
    ⟨none, .s (.v 38 (.mov (.c (.int .i64 0))))⟩])
  (.block 0 
    (.loop 
      (.seq (.region [⟨none, .s (.v 39 (.bin .lss false (.t 38) (.t 37)))⟩])
      (.seq (.cond (.t 39)
        .skip
        (.exit 0))
      (.seq (.block 1 
        (.seq (.region [⟨none, .s (.v 40 (.mov (.t 38)))⟩,
          ⟨none, .s (.v 41 (.iaddr 4 (.t 36) (.t 38)))⟩,
          ⟨none, .s (.v 42 (.load true 4 (.t 41)))⟩,
          ⟨none, .s (.alloc 6 none (.agg [.int .i64 0, .int .i64 0, .str [], .slice 4 .nil []]))⟩,
          ⟨none, .s (.v 5 (.mov (.t 40)))⟩,
          ⟨none, .s (.store 4 (.t 6) (.t 42))⟩])
        (.seq (.drawn true 52 [⟨none, .s (.v 43 (.load true 4 (.t 6)))⟩,
          ⟨none, .s (.v 44 (.faddr 3 false 1 (.t 3)))⟩,
          ⟨none, .s (.v 45 (.load false 1 (.t 44)))⟩,
          ⟨none, .s (.v 46 (.mov (.t 5)))⟩,
          ⟨none, .s (.v 47 (.iaddr 4 (.t 45) (.t 46)))⟩,
          ⟨none, .s (.v 48 (.load true 4 (.t 47)))⟩,
          ⟨none, .call (some 49) (.c (.func 15 [])) [(.t 43), (.t 48)]⟩,
          ⟨none, .s (.v 50 (.notB (.t 49)))⟩])
        (.cond (.t 50)
          (.seq (.region [⟨none, .s (.v 4 (.mov (.c (.bool false))))⟩])
          .ret)
          .skip))))
      (.region [⟨none, .s (.v 51 (.bin .add false (.t 38) (.c (.int .i64 1))))⟩,
        ⟨none, .s (.v 38 (.mov (.t 51)))⟩])))))))
  (.seq (.region [⟨none, .s (.v 4 (.mov (.c (.bool true))))⟩])
  .ret))))
def r_laws_same : List RV := [.tmp 4]

/-- spec.MakeGround -/
def c_spec_MakeGround : C :=
  (.seq (.region [⟨none, .s (.v 6 (.mov (.c (.slice 5 .nil []))))⟩])
  (.seq (.region [⟨none, .s (.v 7 (.mov (.t 0)))⟩,
    ⟨none, .s (.v 8 (.mov (.t 1)))⟩,
    ⟨none, .call (some 9) (.c (.func 50 [])) [(.t 7), (.t 8)]⟩,
    ⟨none, .s (.v 10 (.mov (.t 2)))⟩,
    ⟨none, .call (some 11) (.c (.func 65 [])) [(.t 9), (.t 10)]⟩,
    ⟨none, .s (.v 6 (.mov (.t 11)))⟩])
  .ret))
def r_spec_MakeGround : List RV := [.tmp 6]

/-- impl.Instantiate -/
def c_impl_Instantiate : C :=
  (.seq (.region [⟨none, .s (.box 2 none (.t 0))⟩,
    ⟨none, .s (.alloc 4 none (.agg [.int .i64 0, .int .i64 0, .str [], .slice 4 .nil []]))⟩,
    ⟨none, .s (.v 5 (.mov (.c (.bool false))))⟩])
  (.seq (.seq (.region [⟨none, .s (.v 6 (.load true 4 (.t 2)))⟩,
    ⟨none, .call (some 7) (.c (.func 54 [])) [(.t 6)]⟩,
    ⟨none, .s (.v 8 (.notB (.t 7)))⟩,
    ⟨none, .s (.v 9 (.mov (.t 8)))⟩,
    ⟨(some (9, false)), .s (.v 10 (.mov (.t 1)))⟩,
    ⟨(some (9, false)), .call (some 11) (.c (.func 22 [])) [(.t 10)]⟩,
    ⟨(some (9, false)), .s (.v 12 (.notB (.t 11)))⟩,
    ⟨none, .s (.v 13 (.pick (.t 9) (.c (.bool true)) (.t 12)))⟩])
  (.cond (.t 13)
    (.seq (.region [⟨none, .s (.v 14 (.build [.int .i64 0, .int .i64 0, .str [], .slice 4 .nil []] []))⟩,
      ⟨none, .s (.store 4 (.t 4) (.t 14))⟩,
      ⟨none, .s (.v 5 (.mov (.c (.bool false))))⟩])
    .ret)
    .skip))
  (.seq (.region [⟨none, .s (.v 15 (.mov (.t 1)))⟩,
    ⟨none, .s (.v 16 (.load true 4 (.t 2)))⟩,
    ⟨none, .call (some 17) (.c (.func 57 [])) [(.t 15), (.t 16)]⟩,
    ⟨none, .s (.v 18 (.ext 0 (.t 17)))⟩,
    ⟨none, .s (.v 19 (.ext 1 (.t 17)))⟩,
    ⟨none, .s (.store 4 (.t 4) (.t 18))⟩,
    ⟨none, .s (.v 5 (.mov (.t 19)))⟩])
  .ret)))
def r_impl_Instantiate : List RV := [.cell 4 true 4, .tmp 5]

/-- impl.MatchTerm -/
def c_impl_MatchTerm : C :=
  (.seq (.region [⟨none, .s (.box 2 none (.t 0))⟩,
    ⟨none, .s (.box 3 none (.t 1))⟩,
    ⟨none, .s (.v 4 (.mov (.c (.slice 5 .nil []))))⟩,
    ⟨none, .s (.v 5 (.mov (.c (.bool false))))⟩])
  (.seq (.region [⟨none, .s (.mkmap 10 (some 302))⟩,
    ⟨none, .s (.v 6 (.mov (.t 10)))⟩])
  (.seq (.seq (.region [⟨none, .s (.v 11 (.load true 4 (.t 2)))⟩,
    ⟨none, .call (some 12) (.c (.func 54 [])) [(.t 11)]⟩,
    ⟨none, .s (.v 13 (.notB (.t 12)))⟩,
    ⟨none, .s (.v 14 (.mov (.t 13)))⟩,
    ⟨(some (14, false)), .s (.v 15 (.load true 4 (.t 3)))⟩,
    ⟨(some (14, false)), .call (some 16) (.c (.func 54 [])) [(.t 15)]⟩,
    ⟨(some (14, false)), .s (.v 17 (.notB (.t 16)))⟩,
    ⟨none, .s (.v 18 (.pick (.t 14) (.c (.bool true)) (.t 17)))⟩,
    ⟨none, .s (.v 19 (.mov (.t 18)))⟩,
    ⟨(some (19, false)), .s (.v 20 (.load true 4 (.t 2)))⟩,
    ⟨(some (19, false)), .s (.v 21 (.load true 4 (.t 3)))⟩,
    ⟨(some (19, false)), .s (.v 22 (.mov (.t 6)))⟩,
    ⟨(some (19, false)), .call (some 23) (.c (.func 61 [])) [(.t 20), (.t 21), (.t 22)]⟩,
    ⟨(some (19, false)), .s (.v 24 (.notB (.t 23)))⟩,
    ⟨none, .s (.v 25 (.pick (.t 19) (.c (.bool true)) (.t 24)))⟩,
    ⟨none, .s (.v 26 (.mov (.t 25)))⟩,
    ⟨(some (26, false)), .s (.v 27 (.mov (.t 6)))⟩,
    ⟨(some (26, false)), .s (.v 28 (.mlen (.t 27)))⟩,
    ⟨(some (26, false)), .s (.v 29 (.bin .gtr false (.t 28) (.c (.int .i64 400))))⟩,
    ⟨none, .s (.v 30 (.pick (.t 26) (.c (.bool true)) (.t 29)))⟩])
  (.cond (.t 30)
    (.seq (.region [⟨none, .s (.v 4 (.mov (.c (.slice 5 .nil []))))⟩,
      ⟨none, .s (.v 5 (.mov (.c (.bool false))))⟩])
    .ret)
    .skip))
  (.seq (.region [⟨none, .s (.bslm 31 (some 303) 5 30 [])⟩,
    ⟨none, .s (.v 7 (.mov (.t 31)))⟩])
  (.seq (.seq (.region [⟨none, .s (.v 32 (.mov (.t 6)))⟩,
    ⟨none, .s (.range 33 none (.t 32))⟩])
  (.block 0 
    (.loop 
      (.seq (.region [⟨none, .next 34 (.t 33)⟩,
        ⟨none, .s (.v 35 (.ext 0 (.t 34)))⟩])
      (.seq (.cond (.t 35)
        .skip
        (.exit 0))
      (.block 1 
        (.seq (.region [⟨none, .s (.v 36 (.ment (.t 33)))⟩,
          ⟨none, .s (.v 37 (.ext 0 (.t 36)))⟩,
          ⟨none, .s (.v 38 (.ext 1 (.t 36)))⟩,
          ⟨none, .s (.alloc 9 none (.agg [.int .i64 0, .int .i64 0, .str [], .slice 4 .nil []]))⟩,
          ⟨none, .s (.v 8 (.mov (.t 37)))⟩,
          ⟨none, .s (.store 4 (.t 9) (.t 38))⟩])
        (.region [⟨none, .s (.v 39 (.mov (.t 7)))⟩,
          ⟨none, .s (.v 40 (.mov (.t 8)))⟩,
          ⟨none, .s (.v 41 (.load true 4 (.t 9)))⟩,
          ⟨none, .call (some 42) (.c (.func 66 [])) [(.t 41)]⟩,
          ⟨none, .s (.v 43 (.build [.int .i64 0, .int .i64 0, .int .i64 0, .str [], .slice 4 .nil []] [(0, 1, (.t 40)), (1, 4, (.t 42))]))⟩,
          ⟨none, .s (.bsl 44 5 30 [(.t 43)])⟩,
          ⟨none, .s (.appm 45 none 5 30 (.t 39) (.t 44))⟩,
          ⟨none, .s (.v 7 (.mov (.t 45)))⟩]))))))))
  (.seq (.region [⟨none, .s (.v 46 (.mov (.t 7)))⟩,
    ⟨none, .call (some 47) (.c (.func 67 [])) [(.t 46)]⟩])
  (.seq (.pub 7 (.region [⟨none, .s (.v 48 (.mov (.t 7)))⟩,
    ⟨none, .s (.v 4 (.mov (.t 48)))⟩,
    ⟨none, .s (.v 5 (.mov (.c (.bool true))))⟩]))
  .ret)))))))
def r_impl_MatchTerm : List RV := [.tmp 4, .tmp 5]

/-- impl.ValuesOk -/
def c_impl_ValuesOk : C :=
  (.seq (.region [⟨none, .s (.v 2 (.mov (.c (.bool false))))⟩])
  (.seq (.seq (.region [⟨none, .s (.v 5 (.mov (.t 0)))⟩,
    ⟨none, .s (.v 6 (.len (.t 5)))⟩,
    ⟨none, .s (.v 7 (.bin .gtr false (.t 6) (.c (.int .i64 400))))⟩])
  (.cond (.t 7)
    (.seq (.region [⟨none, .s (.v 2 (.mov (.c (.bool false))))⟩])
    .ret)
    .skip))
  (.seq (.seq (.region [⟨none, .s (.v 8 (.mov (.t 0)))⟩,
    ⟨none, .s (.v 9 (.len (.t 8)))⟩,
    ⟨none, .s (.v 10 (.mov (.c (.int .i64 0))))⟩])
  (.block 0 
    (.loop 
      (.seq (.region [⟨none, .s (.v 11 (.bin .lss false (.t 10) (.t 9)))⟩])
      (.seq (.cond (.t 11)
        .skip
        (.exit 0))
      (.seq (.block 1 
        (.seq (.region [⟨none, .s (.v 12 (.mov (.t 10)))⟩,
          ⟨none, .s (.v 13 (.iaddr 5 (.t 8) (.t 10)))⟩,
          ⟨none, .s (.v 14 (.load true 5 (.t 13)))⟩,
          ⟨none, .s (.alloc 4 none (.agg [.int .i64 0, .int .i64 0, .int .i64 0, .str [], .slice 4 .nil []]))⟩,
          ⟨none, .s (.v 3 (.mov (.t 12)))⟩,
          ⟨none, .s (.store 5 (.t 4) (.t 14))⟩])
        (.seq (.drawn true 45 [⟨none, .s (.v 15 (.faddr 0 false 1 (.t 4)))⟩,
          ⟨none, .s (.v 16 (.load false 1 (.t 15)))⟩,
          ⟨none, .s (.v 17 (.bin .lss false (.t 16) (.c (.int .i64 0))))⟩,
          ⟨none, .s (.v 18 (.mov (.t 17)))⟩,
          ⟨(some (18, false)), .s (.v 19 (.faddr 0 false 1 (.t 4)))⟩,
          ⟨(some (18, false)), .s (.v 20 (.load false 1 (.t 19)))⟩,
          ⟨(some (18, false)), .s (.v 21 (.bin .gtr false (.t 20) (.c (.int .i64 100000))))⟩,
          ⟨none, .s (.v 22 (.pick (.t 18) (.c (.bool true)) (.t 21)))⟩,
          ⟨none, .s (.v 23 (.mov (.t 22)))⟩,
          ⟨(some (23, false)), .s (.v 24 (.mov (.t 3)))⟩,
          ⟨(some (23, false)), .s (.v 25 (.bin .gtr false (.t 24) (.c (.int .i64 0))))⟩,
          ⟨(some (23, false)), .s (.v 26 (.mov (.t 25)))⟩,
          ⟨(some (26, true)), .s (.v 27 (.mov (.t 0)))⟩,
          ⟨(some (26, true)), .s (.v 28 (.mov (.t 3)))⟩,
          ⟨(some (26, true)), .s (.v 29 (.bin .sub false (.t 28) (.c (.int .i64 1))))⟩,
          ⟨(some (26, true)), .s (.v 30 (.iaddr 5 (.t 27) (.t 29)))⟩,
          ⟨(some (26, true)), .s (.v 31 (.faddr 0 false 1 (.t 30)))⟩,
          ⟨(some (26, true)), .s (.v 32 (.load false 1 (.t 31)))⟩,
          ⟨(some (26, true)), .s (.v 33 (.faddr 0 false 1 (.t 4)))⟩,
          ⟨(some (26, true)), .s (.v 34 (.load false 1 (.t 33)))⟩,
          ⟨(some (26, true)), .s (.v 35 (.bin .geq false (.t 32) (.t 34)))⟩,
          ⟨(some (23, false)), .s (.v 36 (.pick (.t 26) (.t 35) (.c (.bool false))))⟩,
          ⟨none, .s (.v 37 (.pick (.t 23) (.c (.bool true)) (.t 36)))⟩,
          ⟨none, .s (.v 38 (.mov (.t 37)))⟩,
          ⟨(some (38, false)), .s (.v 39 (.faddr 1 true 4 (.t 4)))⟩,
          ⟨(some (38, false)), .s (.v 40 (.load true 4 (.t 39)))⟩,
          ⟨(some (38, false)), .call (some 41) (.c (.func 54 [])) [(.t 40)]⟩,
          ⟨(some (38, false)), .s (.v 42 (.notB (.t 41)))⟩,
          ⟨none, .s (.v 43 (.pick (.t 38) (.c (.bool true)) (.t 42)))⟩])
        (.cond (.t 43)
          (.seq (.region [⟨none, .s (.v 2 (.mov (.c (.bool false))))⟩])
          .ret)
          .skip))))
      (.region [⟨none, .s (.v 44 (.bin .add false (.t 10) (.c (.int .i64 1))))⟩,
        ⟨none, .s (.v 10 (.mov (.t 44)))⟩])))))))
  (.seq (.region [⟨none, .s (.v 2 (.mov (.c (.bool true))))⟩])
  .ret))))
def r_impl_ValuesOk : List RV := [.tmp 2]

/-- impl.OccursIn -/
def c_impl_OccursIn : C :=
  (.seq (.region [⟨none, .s (.box 3 none (.t 1))⟩,
    ⟨none, .s (.v 4 (.mov (.c (.bool false))))⟩])
  (.seq (.region [⟨none, .s (.v 5 (.load true 4 (.t 3)))⟩,
    ⟨none, .call (some 6) (.c (.func 54 [])) [(.t 5)]⟩,
    ⟨none, .s (.v 7 (.mov (.t 6)))⟩,
    ⟨(some (7, true)), .s (.v 8 (.mov (.t 0)))⟩,
    ⟨(some (7, true)), .s (.v 9 (.load true 4 (.t 3)))⟩,
    ⟨(some (7, true)), .call (some 10) (.c (.func 68 [])) [(.t 8), (.t 9)]⟩,
    ⟨none, .s (.v 11 (.pick (.t 7) (.t 10) (.c (.bool false))))⟩,
    ⟨none, .s (.v 4 (.mov (.t 11)))⟩])
  .ret))
def r_impl_OccursIn : List RV := [.tmp 4]

/-- spec.MakeAlike -/
def c_spec_MakeAlike : C :=
  (.seq (.region [⟨none, .s (.box 6 none (.t 2))⟩,
    ⟨none, .s (.alloc 8 none (.agg [.int .i64 0, .int .i64 0, .str [], .slice 4 .nil []]))⟩])
  (.seq (.drawnW [401] 15 [⟨none, .s (.v 9 (.mov (.t 0)))⟩,
    ⟨none, .s (.v 10 (.mov (.t 1)))⟩,
    ⟨none, .call (some 11) (.c (.func 50 [])) [(.t 9), (.t 10)]⟩,
    ⟨none, .s (.v 12 (.load true 4 (.t 6)))⟩,
    ⟨none, .s (.v 13 (.mov (.t 3)))⟩,
    ⟨none, .call (some 14) (.c (.func 69 [])) [(.t 11), (.t 12), (.t 13)]⟩,
    ⟨none, .s (.store 4 (.t 8) (.t 14))⟩])
  .ret))
def r_spec_MakeAlike : List RV := [.cell 8 true 4]

/-- impl.TermVars -/
def c_impl_TermVars : C :=
  (.seq (.region [⟨none, .s (.box 1 none (.t 0))⟩,
    ⟨none, .s (.v 2 (.mov (.c (.slice 1 .nil []))))⟩])
  (.seq (.seq (.region [⟨none, .s (.v 4 (.load true 4 (.t 1)))⟩,
    ⟨none, .call (some 5) (.c (.func 54 [])) [(.t 4)]⟩,
    ⟨none, .s (.v 6 (.notB (.t 5)))⟩])
  (.cond (.t 6)
    (.seq (.region [⟨none, .s (.v 2 (.mov (.c (.slice 1 .nil []))))⟩])
    .ret)
    .skip))
  (.seq (.region [⟨none, .s (.mkmap 7 (some 304))⟩,
    ⟨none, .s (.alloc 3 (some 305) (.junk))⟩,
    ⟨none, .s (.store 1 (.t 3) (.t 7))⟩])
  (.seq (.region [⟨none, .s (.v 8 (.load true 4 (.t 1)))⟩,
    ⟨none, .s (.v 9 (.mkf 71 [(.t 3)]))⟩,
    ⟨none, .call (some 10) (.c (.func 70 [])) [(.t 8), (.t 9)]⟩])
  (.seq (.region [⟨none, .s (.v 11 (.load false 1 (.t 3)))⟩,
    ⟨none, .call (some 12) (.c (.func 72 [])) [(.t 11)]⟩,
    ⟨none, .s (.v 2 (.mov (.t 12)))⟩])
  .ret)))))
def r_impl_TermVars : List RV := [.tmp 2]

/-- spec.l43New -/
def c_spec_l43New : C :=
  (.seq (.region [⟨none, .s (.v 4 (.mov (.c (.nilp))))⟩])
  (.seq (.region [⟨none, .s (.v 7 (.mov (.t 0)))⟩,
    ⟨none, .call (some 8) (.c (.func 102 [])) [(.t 7)]⟩,
    ⟨none, .s (.v 5 (.mov (.t 8)))⟩])
  (.seq (.seq (.region [⟨none, .s (.v 6 (.mov (.c (.int .i64 0))))⟩])
  (.block 0 
    (.loop 
      (.seq (.seq (.region [⟨none, .s (.v 9 (.mov (.t 6)))⟩,
        ⟨none, .s (.v 10 (.mov (.t 1)))⟩,
        ⟨none, .s (.v 11 (.bin .lss false (.t 9) (.t 10)))⟩])
      (.cond (.t 11)
        .skip
        (.exit 0)))
      (.seq (.block 1 
        (.region [⟨none, .s (.v 14 (.mov (.t 5)))⟩,
          ⟨none, .call (some 15) (.c (.func 103 [])) [(.t 14)]⟩]))
      (.region [⟨none, .s (.v 12 (.mov (.t 6)))⟩,
        ⟨none, .s (.v 13 (.bin .add false (.t 12) (.c (.int .i64 1))))⟩,
        ⟨none, .s (.v 6 (.mov (.t 13)))⟩]))))))
  (.seq (.region [⟨none, .s (.v 16 (.mov (.t 5)))⟩,
    ⟨none, .s (.v 4 (.mov (.t 16)))⟩])
  .ret))))
def r_spec_l43New : List RV := [.tmp 4]

/-- spec.l02Draw -/
def c_spec_l02Draw : C :=
  (.seq (.region [⟨none, .s (.alloc 6 none (.agg [.int .i64 0, .int .i64 0, .str [], .slice 4 .nil []]))⟩])
  (.seq (.region [⟨none, .s (.v 9 (.mov (.t 0)))⟩,
    ⟨none, .call (some 10) (.c (.func 101 [])) [(.t 9), (.c (.int .i64 8))]⟩,
    ⟨none, .s (.v 7 (.mov (.t 10)))⟩])
  (.seq (.seq (.region [⟨none, .s (.v 11 (.mov (.t 1)))⟩,
    ⟨none, .s (.v 12 (.bin .gtr false (.t 11) (.c (.int .i64 2))))⟩,
    ⟨none, .s (.v 13 (.mov (.t 12)))⟩,
    ⟨(some (13, true)), .s (.v 14 (.mov (.t 7)))⟩,
    ⟨(some (13, true)), .s (.v 15 (.bin .geq false (.t 14) (.c (.int .i64 3))))⟩,
    ⟨none, .s (.v 16 (.pick (.t 13) (.t 15) (.c (.bool false))))⟩])
  (.cond (.t 16)
    (.seq (.region [⟨none, .s (.v 17 (.mov (.t 0)))⟩,
      ⟨none, .s (.v 18 (.mov (.t 1)))⟩,
      ⟨none, .s (.v 19 (.bin .quo false (.t 18) (.c (.int .i64 2))))⟩,
      ⟨none, .s (.v 20 (.mov (.t 2)))⟩,
      ⟨none, .call (some 21) (.c (.func 51 [])) [(.t 17), (.t 19), (.t 20)]⟩,
      ⟨none, .s (.alloc 8 none (.agg [.int .i64 0, .int .i64 0, .str [], .slice 4 .nil []]))⟩,
      ⟨none, .s (.store 4 (.t 8) (.t 21))⟩])
    (.seq (.drawn false 42 [⟨none, .s (.v 22 (.load true 4 (.t 8)))⟩,
      ⟨none, .s (.v 23 (.mov (.t 0)))⟩,
      ⟨none, .s (.v 24 (.mov (.t 1)))⟩,
      ⟨none, .s (.v 25 (.bin .quo false (.t 24) (.c (.int .i64 2))))⟩,
      ⟨none, .s (.v 26 (.mov (.t 2)))⟩,
      ⟨none, .call (some 27) (.c (.func 51 [])) [(.t 23), (.t 25), (.t 26)]⟩,
      ⟨none, .call (some 28) (.c (.func 104 [])) [(.t 22), (.t 27)]⟩,
      ⟨none, .s (.store 4 (.t 6) (.t 28))⟩])
    .ret))
    .skip))
  (.seq (.seq (.region [⟨none, .s (.v 29 (.mov (.t 2)))⟩,
    ⟨none, .s (.v 30 (.bin .gtr false (.t 29) (.c (.int .i64 0))))⟩,
    ⟨none, .s (.v 31 (.mov (.t 30)))⟩,
    ⟨(some (31, true)), .s (.v 32 (.mov (.t 7)))⟩,
    ⟨(some (31, true)), .s (.v 33 (.bin .rem false (.t 32) (.c (.int .i64 2))))⟩,
    ⟨(some (31, true)), .s (.v 34 (.bin .eql false (.t 33) (.c (.int .i64 0))))⟩,
    ⟨none, .s (.v 35 (.pick (.t 31) (.t 34) (.c (.bool false))))⟩])
  (.cond (.t 35)
    (.seq (.region [⟨none, .s (.v 36 (.mov (.t 0)))⟩,
      ⟨none, .s (.v 37 (.mov (.t 2)))⟩,
      ⟨none, .call (some 38) (.c (.func 101 [])) [(.t 36), (.t 37)]⟩,
      ⟨none, .call (some 39) (.c (.func 105 [])) [(.t 38)]⟩,
      ⟨none, .s (.store 4 (.t 6) (.t 39))⟩])
    .ret)
    .skip))
  (.seq (.region [⟨none, .s (.v 40 (.mov (.t 0)))⟩,
    ⟨none, .call (some 41) (.c (.func 106 [])) [(.t 40)]⟩,
    ⟨none, .s (.store 4 (.t 6) (.t 41))⟩])
  .ret)))))
def r_spec_l02Draw : List RV := [.cell 6 true 4]

/-- spec.l02Copy -/
def c_spec_l02Copy : C :=
  (.seq (.region [⟨none, .s (.box 1 none (.t 0))⟩,
    ⟨none, .s (.alloc 2 none (.agg [.int .i64 0, .int .i64 0, .str [], .slice 4 .nil []]))⟩])
  (.seq (.region [⟨none, .s (.v 6 (.faddr 0 false 1 (.t 1)))⟩,
    ⟨none, .s (.v 7 (.load false 1 (.t 6)))⟩,
    ⟨none, .s (.v 8 (.faddr 1 false 1 (.t 1)))⟩,
    ⟨none, .s (.v 9 (.load false 1 (.t 8)))⟩,
    ⟨none, .s (.v 10 (.faddr 2 false 1 (.t 1)))⟩,
    ⟨none, .s (.v 11 (.load false 1 (.t 10)))⟩,
    ⟨none, .s (.v 12 (.build [.int .i64 0, .int .i64 0, .str [], .slice 4 .nil []] [(0, 1, (.t 7)), (1, 1, (.t 9)), (2, 1, (.t 11))]))⟩,
    ⟨none, .s (.alloc 3 none (.agg [.int .i64 0, .int .i64 0, .str [], .slice 4 .nil []]))⟩,
    ⟨none, .s (.store 4 (.t 3) (.t 12))⟩])
  (.seq (.seq (.region [⟨none, .s (.v 13 (.faddr 3 false 1 (.t 1)))⟩,
    ⟨none, .s (.v 14 (.load false 1 (.t 13)))⟩,
    ⟨none, .s (.v 15 (.len (.t 14)))⟩,
    ⟨none, .s (.v 16 (.mov (.c (.int .i64 0))))⟩])
  (.block 0 
    (.loop 
      (.seq (.region [⟨none, .s (.v 17 (.bin .lss false (.t 16) (.t 15)))⟩])
      (.seq (.cond (.t 17)
        .skip
        (.exit 0))
      (.seq (.block 1 
        (.seq (.region [⟨none, .s (.v 18 (.iaddr 4 (.t 14) (.t 16)))⟩,
          ⟨none, .s (.v 19 (.load true 4 (.t 18)))⟩,
          ⟨none, .s (.alloc 5 none (.agg [.int .i64 0, .int .i64 0, .str [], .slice 4 .nil []]))⟩,
          ⟨none, .s (.store 4 (.t 5) (.t 19))⟩])
        (.drawn true 29 [⟨none, .s (.v 20 (.faddr 3 false 1 (.t 3)))⟩,
          ⟨none, .s (.v 21 (.load false 1 (.t 20)))⟩,
          ⟨none, .s (.v 22 (.load true 4 (.t 5)))⟩,
          ⟨none, .call (some 23) (.c (.func 52 [])) [(.t 22)]⟩,
          ⟨none, .s (.bsl 24 4 26 [(.t 23)])⟩,
          ⟨none, .s (.app 25 4 26 (.t 21) (.t 24))⟩,
          ⟨none, .s (.v 26 (.faddr 3 false 1 (.t 3)))⟩,
          ⟨none, .s (.store 1 (.t 26) (.t 25))⟩])))
      (.region [⟨none, .s (.v 27 (.bin .add false (.t 16) (.c (.int .i64 1))))⟩,
        ⟨none, .s (.v 16 (.mov (.t 27)))⟩])))))))
  (.seq (.region [⟨none, .s (.v 28 (.load true 4 (.t 3)))⟩,
    ⟨none, .s (.store 4 (.t 2) (.t 28))⟩])
  .ret))))
def r_spec_l02Copy : List RV := [.cell 2 true 4]

/-- spec.l04Put -/
def c_spec_l04Put : C :=
  (.seq (.region [⟨none, .s (.box 3 none (.t 1))⟩,
    ⟨none, .s (.alloc 4 none (.agg [.int .i64 0, .int .i64 0, .str [], .slice 4 .nil []]))⟩])
  (.seq (.seq (.region [⟨none, .s (.v 7 (.faddr 0 false 1 (.t 3)))⟩,
    ⟨none, .s (.v 8 (.load false 1 (.t 7)))⟩,
    ⟨none, .s (.v 9 (.bin .eql false (.t 8) (.c (.int .i64 1))))⟩])
  (.cond (.t 9)
    (.seq (.region [⟨none, .s (.v 11 (.mov (.t 0)))⟩,
      ⟨none, .s (.v 12 (.faddr 1 false 1 (.t 3)))⟩,
      ⟨none, .s (.v 13 (.load false 1 (.t 12)))⟩,
      ⟨none, .call (some 14) (.c (.func 107 [])) [(.t 11), (.t 13)]⟩,
      ⟨none, .s (.v 10 (.mov (.t 14)))⟩,
      ⟨none, .s (.v 15 (.ext 0 (.t 10)))⟩,
      ⟨none, .s (.v 16 (.ext 1 (.t 10)))⟩,
      ⟨none, .s (.alloc 5 none (.agg [.int .i64 0, .int .i64 0, .str [], .slice 4 .nil []]))⟩,
      ⟨none, .s (.store 4 (.t 5) (.t 15))⟩,
      ⟨none, .s (.v 6 (.mov (.t 16)))⟩])
    (.seq (.region [⟨none, .s (.v 17 (.mov (.t 6)))⟩])
    (.cond (.t 17)
      (.seq (.region [⟨none, .s (.v 18 (.load true 4 (.t 5)))⟩,
        ⟨none, .s (.store 4 (.t 4) (.t 18))⟩])
      .ret)
      .skip)))
    .skip))
  (.seq (.seq (.region [⟨none, .s (.v 19 (.faddr 0 false 1 (.t 3)))⟩,
    ⟨none, .s (.v 20 (.load false 1 (.t 19)))⟩,
    ⟨none, .s (.v 21 (.bin .eql false (.t 20) (.c (.int .i64 4))))⟩])
  (.cond (.t 21)
    (.seq (.drawn true 36 [⟨none, .s (.v 22 (.mov (.t 0)))⟩,
      ⟨none, .s (.v 23 (.faddr 3 false 1 (.t 3)))⟩,
      ⟨none, .s (.v 24 (.load false 1 (.t 23)))⟩,
      ⟨none, .s (.v 25 (.iaddr 4 (.t 24) (.c (.int .i64 0))))⟩,
      ⟨none, .s (.v 26 (.load true 4 (.t 25)))⟩,
      ⟨none, .call (some 27) (.c (.func 53 [])) [(.t 22), (.t 26)]⟩,
      ⟨none, .s (.v 28 (.mov (.t 0)))⟩,
      ⟨none, .s (.v 29 (.faddr 3 false 1 (.t 3)))⟩,
      ⟨none, .s (.v 30 (.load false 1 (.t 29)))⟩,
      ⟨none, .s (.v 31 (.iaddr 4 (.t 30) (.c (.int .i64 1))))⟩,
      ⟨none, .s (.v 32 (.load true 4 (.t 31)))⟩,
      ⟨none, .call (some 33) (.c (.func 53 [])) [(.t 28), (.t 32)]⟩,
      ⟨none, .call (some 34) (.c (.func 104 [])) [(.t 27), (.t 33)]⟩,
      ⟨none, .s (.store 4 (.t 4) (.t 34))⟩])
    .ret)
    .skip))
  (.seq (.region [⟨none, .s (.v 35 (.load true 4 (.t 3)))⟩,
    ⟨none, .s (.store 4 (.t 4) (.t 35))⟩])
  .ret))))
def r_spec_l04Put : List RV := [.cell 4 true 4]

/-- impl.TermOk -/
def c_impl_TermOk : C :=
  (.seq (.region [⟨none, .s (.box 1 none (.t 0))⟩,
    ⟨none, .s (.v 2 (.mov (.c (.bool false))))⟩])
  (.seq (.region [⟨none, .s (.v 3 (.load true 4 (.t 1)))⟩,
    ⟨none, .call (some 4) (.c (.func 108 [])) [(.t 3), (.c (.int .i64 5000))]⟩,
    ⟨none, .s (.v 5 (.bin .gtr false (.t 4) (.c (.int .i64 0))))⟩,
    ⟨none, .s (.v 2 (.mov (.t 5)))⟩])
  .ret))
def r_impl_TermOk : List RV := [.tmp 2]

/-- impl.put -/
def c_impl_put : C :=
  (.seq (.region [⟨none, .s (.box 2 (some 201) (.t 0))⟩,
    ⟨none, .s (.box 3 none (.t 1))⟩,
    ⟨none, .s (.alloc 4 none (.agg [.int .i64 0, .int .i64 0, .str [], .slice 4 .nil []]))⟩,
    ⟨none, .s (.v 5 (.mov (.c (.bool false))))⟩])
  (.seq (.region [⟨none, .s (.v 6 (.load true 4 (.t 3)))⟩,
    ⟨none, .s (.v 7 (.mkf 110 [(.t 2)]))⟩,
    ⟨none, .call (some 8) (.c (.func 109 [])) [(.t 6), (.t 7)]⟩,
    ⟨none, .s (.v 9 (.ext 0 (.t 8)))⟩,
    ⟨none, .s (.v 10 (.ext 1 (.t 8)))⟩,
    ⟨none, .s (.store 4 (.t 4) (.t 9))⟩,
    ⟨none, .s (.v 5 (.mov (.t 10)))⟩])
  .ret))
def r_impl_put : List RV := [.cell 4 true 4, .tmp 5]

/-- impl.orderTerms -/
def c_impl_orderTerms : C :=
  (.seq (.region [⟨none, .s (.box 2 none (.t 0))⟩,
    ⟨none, .s (.box 3 none (.t 1))⟩,
    ⟨none, .s (.v 4 (.mov (.c (.int .i64 0))))⟩])
  (.seq (.seq (.region [⟨none, .s (.v 6 (.faddr 0 false 1 (.t 2)))⟩,
    ⟨none, .s (.v 7 (.load false 1 (.t 6)))⟩,
    ⟨none, .s (.v 8 (.faddr 0 false 1 (.t 3)))⟩,
    ⟨none, .s (.v 9 (.load false 1 (.t 8)))⟩,
    ⟨none, .s (.v 10 (.bin .neq false (.t 7) (.t 9)))⟩])
  (.cond (.t 10)
    (.seq (.region [⟨none, .s (.v 11 (.faddr 0 false 1 (.t 2)))⟩,
      ⟨none, .s (.v 12 (.load false 1 (.t 11)))⟩,
      ⟨none, .s (.v 13 (.faddr 0 false 1 (.t 3)))⟩,
      ⟨none, .s (.v 14 (.load false 1 (.t 13)))⟩,
      ⟨none, .call (some 15) (.c (.func 115 [])) [(.t 12), (.t 14)]⟩,
      ⟨none, .s (.v 4 (.mov (.t 15)))⟩])
    .ret)
    .skip))
  (.seq (.seq (.region [⟨none, .s (.v 16 (.faddr 1 false 1 (.t 2)))⟩,
    ⟨none, .s (.v 17 (.load false 1 (.t 16)))⟩,
    ⟨none, .s (.v 18 (.faddr 1 false 1 (.t 3)))⟩,
    ⟨none, .s (.v 19 (.load false 1 (.t 18)))⟩,
    ⟨none, .s (.v 20 (.bin .neq false (.t 17) (.t 19)))⟩])
  (.cond (.t 20)
    (.seq (.region [⟨none, .s (.v 21 (.faddr 1 false 1 (.t 2)))⟩,
      ⟨none, .s (.v 22 (.load false 1 (.t 21)))⟩,
      ⟨none, .s (.v 23 (.faddr 1 false 1 (.t 3)))⟩,
      ⟨none, .s (.v 24 (.load false 1 (.t 23)))⟩,
      ⟨none, .call (some 25) (.c (.func 115 [])) [(.t 22), (.t 24)]⟩,
      ⟨none, .s (.v 4 (.mov (.t 25)))⟩])
    .ret)
    .skip))
  (.seq (.seq (.region [⟨none, .s (.v 26 (.faddr 2 false 1 (.t 2)))⟩,
    ⟨none, .s (.v 27 (.load false 1 (.t 26)))⟩,
    ⟨none, .s (.v 28 (.faddr 2 false 1 (.t 3)))⟩,
    ⟨none, .s (.v 29 (.load false 1 (.t 28)))⟩,
    ⟨none, .s (.v 30 (.bin .neq false (.t 27) (.t 29)))⟩])
  (.cond (.t 30)
    (.seq (.seq (.region [⟨none, .s (.v 31 (.faddr 2 false 1 (.t 2)))⟩,
      ⟨none, .s (.v 32 (.load false 1 (.t 31)))⟩,
      ⟨none, .s (.v 33 (.faddr 2 false 1 (.t 3)))⟩,
      ⟨none, .s (.v 34 (.load false 1 (.t 33)))⟩,
      ⟨none, .s (.v 35 (.bin .lss false (.t 32) (.t 34)))⟩])
    (.cond (.t 35)
      (.seq (.region [⟨none, .s (.v 4 (.mov (.c (.int .i64 (-1)))))⟩])
      .ret)
      .skip))
    (.seq (.region [⟨none, .s (.v 4 (.mov (.c (.int .i64 1))))⟩])
    .ret))
    .skip))
  (.seq (.seq (.region [⟨none, .s (.v 36 (.faddr 0 false 1 (.t 2)))⟩,
    ⟨none, .s (.v 37 (.load false 1 (.t 36)))⟩,
    ⟨none, .s (.v 38 (.bin .neq false (.t 37) (.c (.int .i64 4))))⟩])
  (.cond (.t 38)
    (.seq (.region [⟨none, .s (.v 4 (.mov (.c (.int .i64 0))))⟩])
    .ret)
    .skip))
  (.seq (.seq (.drawn true 60 [⟨none, .s (.v 39 (.faddr 3 false 1 (.t 2)))⟩,
    ⟨none, .s (.v 40 (.load false 1 (.t 39)))⟩,
    ⟨none, .s (.v 41 (.iaddr 4 (.t 40) (.c (.int .i64 0))))⟩,
    ⟨none, .s (.v 42 (.load true 4 (.t 41)))⟩,
    ⟨none, .s (.v 43 (.faddr 3 false 1 (.t 3)))⟩,
    ⟨none, .s (.v 44 (.load false 1 (.t 43)))⟩,
    ⟨none, .s (.v 45 (.iaddr 4 (.t 44) (.c (.int .i64 0))))⟩,
    ⟨none, .s (.v 46 (.load true 4 (.t 45)))⟩,
    ⟨none, .call (some 47) (.c (.func 59 [])) [(.t 42), (.t 46)]⟩,
    ⟨none, .s (.v 5 (.mov (.t 47)))⟩])
  (.seq (.region [⟨none, .s (.v 48 (.mov (.t 5)))⟩,
    ⟨none, .s (.v 49 (.bin .neq false (.t 48) (.c (.int .i64 0))))⟩])
  (.cond (.t 49)
    (.seq (.region [⟨none, .s (.v 50 (.mov (.t 5)))⟩,
      ⟨none, .s (.v 4 (.mov (.t 50)))⟩])
    .ret)
    .skip)))
  (.seq (.drawn true 60 [⟨none, .s (.v 51 (.faddr 3 false 1 (.t 2)))⟩,
    ⟨none, .s (.v 52 (.load false 1 (.t 51)))⟩,
    ⟨none, .s (.v 53 (.iaddr 4 (.t 52) (.c (.int .i64 1))))⟩,
    ⟨none, .s (.v 54 (.load true 4 (.t 53)))⟩,
    ⟨none, .s (.v 55 (.faddr 3 false 1 (.t 3)))⟩,
    ⟨none, .s (.v 56 (.load false 1 (.t 55)))⟩,
    ⟨none, .s (.v 57 (.iaddr 4 (.t 56) (.c (.int .i64 1))))⟩,
    ⟨none, .s (.v 58 (.load true 4 (.t 57)))⟩,
    ⟨none, .call (some 59) (.c (.func 59 [])) [(.t 54), (.t 58)]⟩,
    ⟨none, .s (.v 4 (.mov (.t 59)))⟩])
  .ret)))))))
def r_impl_orderTerms : List RV := [.tmp 4]

/-- impl.matched -/
def c_impl_matched : C :=
  (.seq (.region [⟨none, .s (.box 3 none (.t 0))⟩,
    ⟨none, .s (.box 4 none (.t 1))⟩,
    ⟨none, .s (.v 6 (.mov (.c (.bool false))))⟩])
  (.seq (.seq (.region [⟨none, .s (.v 9 (.faddr 0 false 1 (.t 3)))⟩,
    ⟨none, .s (.v 10 (.load false 1 (.t 9)))⟩,
    ⟨none, .s (.v 11 (.bin .eql false (.t 10) (.c (.int .i64 1))))⟩])
  (.cond (.t 11)
    (.seq (.seq (.region [⟨none, .s (.v 13 (.mov (.t 2)))⟩,
      ⟨none, .s (.v 14 (.faddr 1 false 1 (.t 3)))⟩,
      ⟨none, .s (.v 15 (.load false 1 (.t 14)))⟩,
      ⟨none, .s (.v 16 (.mget false (.agg [.int .i64 0, .int .i64 0, .str [], .slice 4 .nil []]) true (.t 13) (.t 15)))⟩,
      ⟨none, .s (.v 12 (.mov (.t 16)))⟩,
      ⟨none, .s (.v 17 (.ext 0 (.t 12)))⟩,
      ⟨none, .s (.v 18 (.ext 1 (.t 12)))⟩,
      ⟨none, .s (.alloc 7 none (.agg [.int .i64 0, .int .i64 0, .str [], .slice 4 .nil []]))⟩,
      ⟨none, .s (.store 4 (.t 7) (.t 17))⟩,
      ⟨none, .s (.v 8 (.mov (.t 18)))⟩])
    (.seq (.region [⟨none, .s (.v 19 (.mov (.t 8)))⟩])
    (.cond (.t 19)
      (.seq (.region [⟨none, .s (.v 20 (.load true 4 (.t 7)))⟩,
        ⟨none, .s (.v 21 (.load true 4 (.t 4)))⟩,
        ⟨none, .call (some 22) (.c (.func 114 [])) [(.t 20), (.t 21)]⟩,
        ⟨none, .s (.v 6 (.mov (.t 22)))⟩])
      .ret)
      .skip)))
    (.seq (.region [⟨none, .s (.v 23 (.mov (.t 2)))⟩,
      ⟨none, .s (.v 24 (.faddr 1 false 1 (.t 3)))⟩,
      ⟨none, .s (.v 25 (.load false 1 (.t 24)))⟩,
      ⟨none, .s (.v 26 (.load true 4 (.t 4)))⟩,
      ⟨none, .s (.mput false (.t 23) (.t 25) (.t 26))⟩])
    (.seq (.region [⟨none, .s (.v 6 (.mov (.c (.bool true))))⟩])
    .ret)))
    .skip))
  (.seq (.seq (.region [⟨none, .s (.v 27 (.faddr 0 false 1 (.t 3)))⟩,
    ⟨none, .s (.v 28 (.load false 1 (.t 27)))⟩,
    ⟨none, .s (.v 29 (.faddr 0 false 1 (.t 4)))⟩,
    ⟨none, .s (.v 30 (.load false 1 (.t 29)))⟩,
    ⟨none, .s (.v 31 (.bin .neq false (.t 28) (.t 30)))⟩,
    ⟨none, .s (.v 32 (.mov (.t 31)))⟩,
    ⟨(some (32, false)), .s (.v 33 (.faddr 1 false 1 (.t 3)))⟩,
    ⟨(some (32, false)), .s (.v 34 (.load false 1 (.t 33)))⟩,
    ⟨(some (32, false)), .s (.v 35 (.faddr 1 false 1 (.t 4)))⟩,
    ⟨(some (32, false)), .s (.v 36 (.load false 1 (.t 35)))⟩,
    ⟨(some (32, false)), .s (.v 37 (.bin .neq false (.t 34) (.t 36)))⟩,
    ⟨none, .s (.v 38 (.pick (.t 32) (.c (.bool true)) (.t 37)))⟩,
    ⟨none, .s (.v 39 (.mov (.t 38)))⟩,
    ⟨(some (39, false)), .s (.v 40 (.faddr 2 false 1 (.t 3)))⟩,
    ⟨(some (39, false)), .s (.v 41 (.load false 1 (.t 40)))⟩,
    ⟨(some (39, false)), .s (.v 42 (.faddr 2 false 1 (.t 4)))⟩,
    ⟨(some (39, false)), .s (.v 43 (.load false 1 (.t 42)))⟩,
    ⟨(some (39, false)), .s (.v 44 (.bin .neq false (.t 41) (.t 43)))⟩,
    ⟨none, .s (.v 45 (.pick (.t 39) (.c (.bool true)) (.t 44)))⟩])
  (.cond (.t 45)
    (.seq (.region [⟨none, .s (.v 6 (.mov (.c (.bool false))))⟩])
    .ret)
    .skip))
  (.seq (.drawn false 73 [⟨none, .s (.v 46 (.faddr 0 false 1 (.t 3)))⟩,
    ⟨none, .s (.v 47 (.load false 1 (.t 46)))⟩,
    ⟨none, .s (.v 48 (.bin .neq false (.t 47) (.c (.int .i64 4))))⟩,
    ⟨none, .s (.v 49 (.mov (.t 48)))⟩,
    ⟨(some (49, false)), .s (.v 50 (.faddr 3 false 1 (.t 3)))⟩,
    ⟨(some (49, false)), .s (.v 51 (.load false 1 (.t 50)))⟩,
    ⟨(some (49, false)), .s (.v 52 (.iaddr 4 (.t 51) (.c (.int .i64 0))))⟩,
    ⟨(some (49, false)), .s (.v 53 (.load true 4 (.t 52)))⟩,
    ⟨(some (49, false)), .s (.v 54 (.faddr 3 false 1 (.t 4)))⟩,
    ⟨(some (49, false)), .s (.v 55 (.load false 1 (.t 54)))⟩,
    ⟨(some (49, false)), .s (.v 56 (.iaddr 4 (.t 55) (.c (.int .i64 0))))⟩,
    ⟨(some (49, false)), .s (.v 57 (.load true 4 (.t 56)))⟩,
    ⟨(some (49, false)), .s (.v 58 (.mov (.t 2)))⟩,
    ⟨(some (49, false)), .call (some 59) (.c (.func 61 [])) [(.t 53), (.t 57), (.t 58)]⟩,
    ⟨(some (49, false)), .s (.v 60 (.mov (.t 59)))⟩,
    ⟨(some (60, true)), .s (.v 61 (.faddr 3 false 1 (.t 3)))⟩,
    ⟨(some (60, true)), .s (.v 62 (.load false 1 (.t 61)))⟩,
    ⟨(some (60, true)), .s (.v 63 (.iaddr 4 (.t 62) (.c (.int .i64 1))))⟩,
    ⟨(some (60, true)), .s (.v 64 (.load true 4 (.t 63)))⟩,
    ⟨(some (60, true)), .s (.v 65 (.faddr 3 false 1 (.t 4)))⟩,
    ⟨(some (60, true)), .s (.v 66 (.load false 1 (.t 65)))⟩,
    ⟨(some (60, true)), .s (.v 67 (.iaddr 4 (.t 66) (.c (.int .i64 1))))⟩,
    ⟨(some (60, true)), .s (.v 68 (.load true 4 (.t 67)))⟩,
    ⟨(some (60, true)), .s (.v 69 (.mov (.t 2)))⟩,
    ⟨(some (60, true)), .call (some 70) (.c (.func 61 [])) [(.t 64), (.t 68), (.t 69)]⟩,
    ⟨(some (49, false)), .s (.v 71 (.pick (.t 60) (.t 70) (.c (.bool false))))⟩,
    ⟨none, .s (.v 72 (.pick (.t 49) (.c (.bool true)) (.t 71)))⟩,
    ⟨none, .s (.v 6 (.mov (.t 72)))⟩])
  .ret))))
def r_impl_matched : List RV := [.tmp 6]

/-- impl.pair -/
def c_impl_pair : C :=
  (.seq (.region [⟨none, .s (.box 2 none (.t 0))⟩,
    ⟨none, .s (.box 3 none (.t 1))⟩,
    ⟨none, .s (.alloc 4 none (.agg [.int .i64 0, .int .i64 0, .str [], .slice 4 .nil []]))⟩])
  (.seq (.region [⟨none, .s (.v 5 (.load true 4 (.t 2)))⟩,
    ⟨none, .s (.v 6 (.load true 4 (.t 3)))⟩,
    ⟨none, .s (.bsl 7 4 26 [(.t 5), (.t 6)])⟩,
    ⟨none, .s (.v 8 (.build [.int .i64 0, .int .i64 0, .str [], .slice 4 .nil []] [(0, 1, (.c (.int .i64 4))), (3, 1, (.t 7))]))⟩,
    ⟨none, .s (.store 4 (.t 4) (.t 8))⟩])
  .ret))
def r_impl_pair : List RV := [.cell 4 true 4]

/-- spec.l12Ground -/
def c_spec_l12Ground : C :=
  (.seq (.region [⟨none, .s (.v 4 (.mov (.c (.slice 5 .nil []))))⟩])
  (.seq (.region [⟨none, .s (.bsl 7 5 30 [])⟩,
    ⟨none, .s (.v 5 (.mov (.t 7)))⟩])
  (.seq (.seq (.region [⟨none, .s (.v 6 (.mov (.c (.int .i64 0))))⟩])
  (.block 0 
    (.loop 
      (.seq (.seq (.region [⟨none, .s (.v 8 (.mov (.t 6)))⟩,
        ⟨none, .s (.v 9 (.mov (.t 1)))⟩,
        ⟨none, .s (.v 10 (.bin .lss false (.t 8) (.t 9)))⟩])
      (.cond (.t 10)
        .skip
        (.exit 0)))
      (.seq (.block 1 
        (.region [⟨none, .s (.v 13 (.mov (.t 5)))⟩,
          ⟨none, .s (.v 14 (.mov (.t 6)))⟩,
          ⟨none, .s (.v 15 (.mov (.t 0)))⟩,
          ⟨none, .call (some 16) (.c (.func 51 [])) [(.t 15), (.c (.int .i64 3)), (.c (.int .i64 0))]⟩,
          ⟨none, .s (.v 17 (.build [.int .i64 0, .int .i64 0, .int .i64 0, .str [], .slice 4 .nil []] [(0, 1, (.t 14)), (1, 4, (.t 16))]))⟩,
          ⟨none, .s (.bsl 18 5 30 [(.t 17)])⟩,
          ⟨none, .s (.app 19 5 30 (.t 13) (.t 18))⟩,
          ⟨none, .s (.v 5 (.mov (.t 19)))⟩]))
      (.region [⟨none, .s (.v 11 (.mov (.t 6)))⟩,
        ⟨none, .s (.v 12 (.bin .add false (.t 11) (.c (.int .i64 1))))⟩,
        ⟨none, .s (.v 6 (.mov (.t 12)))⟩]))))))
  (.seq (.region [⟨none, .s (.v 20 (.mov (.t 5)))⟩,
    ⟨none, .s (.v 4 (.mov (.t 20)))⟩])
  .ret))))
def r_spec_l12Ground : List RV := [.tmp 4]

/-- impl.copyTerm -/
def c_impl_copyTerm : C :=
  (.seq (.region [⟨none, .s (.box 1 none (.t 0))⟩,
    ⟨none, .s (.alloc 2 none (.agg [.int .i64 0, .int .i64 0, .str [], .slice 4 .nil []]))⟩])
  (.seq (.seq (.region [⟨none, .s (.v 3 (.faddr 0 false 1 (.t 1)))⟩,
    ⟨none, .s (.v 4 (.load false 1 (.t 3)))⟩,
    ⟨none, .s (.v 5 (.bin .neq false (.t 4) (.c (.int .i64 4))))⟩])
  (.cond (.t 5)
    (.seq (.region [⟨none, .s (.v 6 (.faddr 0 false 1 (.t 1)))⟩,
      ⟨none, .s (.v 7 (.load false 1 (.t 6)))⟩,
      ⟨none, .s (.v 8 (.faddr 1 false 1 (.t 1)))⟩,
      ⟨none, .s (.v 9 (.load false 1 (.t 8)))⟩,
      ⟨none, .s (.v 10 (.faddr 2 false 1 (.t 1)))⟩,
      ⟨none, .s (.v 11 (.load false 1 (.t 10)))⟩,
      ⟨none, .s (.v 12 (.build [.int .i64 0, .int .i64 0, .str [], .slice 4 .nil []] [(0, 1, (.t 7)), (1, 1, (.t 9)), (2, 1, (.t 11))]))⟩,
      ⟨none, .s (.store 4 (.t 2) (.t 12))⟩])
    .ret)
    .skip))
  (.seq (.drawn true 25 [⟨none, .s (.v 13 (.faddr 3 false 1 (.t 1)))⟩,
    ⟨none, .s (.v 14 (.load false 1 (.t 13)))⟩,
    ⟨none, .s (.v 15 (.iaddr 4 (.t 14) (.c (.int .i64 0))))⟩,
    ⟨none, .s (.v 16 (.load true 4 (.t 15)))⟩,
    ⟨none, .call (some 17) (.c (.func 66 [])) [(.t 16)]⟩,
    ⟨none, .s (.v 18 (.faddr 3 false 1 (.t 1)))⟩,
    ⟨none, .s (.v 19 (.load false 1 (.t 18)))⟩,
    ⟨none, .s (.v 20 (.iaddr 4 (.t 19) (.c (.int .i64 1))))⟩,
    ⟨none, .s (.v 21 (.load true 4 (.t 20)))⟩,
    ⟨none, .call (some 22) (.c (.func 66 [])) [(.t 21)]⟩,
    ⟨none, .s (.bsl 23 4 26 [(.t 17), (.t 22)])⟩,
    ⟨none, .s (.v 24 (.build [.int .i64 0, .int .i64 0, .str [], .slice 4 .nil []] [(0, 1, (.c (.int .i64 4))), (3, 1, (.t 23))]))⟩,
    ⟨none, .s (.store 4 (.t 2) (.t 24))⟩])
  .ret)))
def r_impl_copyTerm : List RV := [.cell 2 true 4]

/-- impl.sortBindings -/
def c_impl_sortBindings : C :=
  (.seq (.region [⟨none, .s (.box 1 (some 307) (.t 0))⟩])
  (.region [⟨none, .s (.v 2 (.load false 1 (.t 1)))⟩,
    ⟨none, .s (.v 3 (.mkif 31 (.t 2)))⟩,
    ⟨none, .s (.v 4 (.mkf 118 [(.t 1)]))⟩,
    ⟨none, .call (some 5) (.c (.func 117 [])) [(.t 3), (.t 4)]⟩]))
def r_impl_sortBindings : List RV := []

/-- impl.occurs -/
def c_impl_occurs : C :=
  (.seq (.region [⟨none, .s (.box 3 none (.t 1))⟩,
    ⟨none, .s (.v 4 (.mov (.c (.bool false))))⟩])
  (.seq (.seq (.region [⟨none, .s (.v 5 (.faddr 0 false 1 (.t 3)))⟩,
    ⟨none, .s (.v 6 (.load false 1 (.t 5)))⟩,
    ⟨none, .s (.v 7 (.bin .eql false (.t 6) (.c (.int .i64 1))))⟩])
  (.cond (.t 7)
    (.seq (.region [⟨none, .s (.v 8 (.faddr 1 false 1 (.t 3)))⟩,
      ⟨none, .s (.v 9 (.load false 1 (.t 8)))⟩,
      ⟨none, .s (.v 10 (.mov (.t 0)))⟩,
      ⟨none, .s (.v 11 (.bin .eql false (.t 9) (.t 10)))⟩,
      ⟨none, .s (.v 4 (.mov (.t 11)))⟩])
    .ret)
    .skip))
  (.seq (.region [⟨none, .s (.v 12 (.faddr 0 false 1 (.t 3)))⟩,
    ⟨none, .s (.v 13 (.load false 1 (.t 12)))⟩,
    ⟨none, .s (.v 14 (.bin .eql false (.t 13) (.c (.int .i64 4))))⟩,
    ⟨none, .s (.v 15 (.mov (.t 14)))⟩,
    ⟨(some (15, true)), .s (.v 16 (.mov (.t 0)))⟩,
    ⟨(some (15, true)), .s (.v 17 (.faddr 3 false 1 (.t 3)))⟩,
    ⟨(some (15, true)), .s (.v 18 (.load false 1 (.t 17)))⟩,
    ⟨(some (15, true)), .s (.v 19 (.iaddr 4 (.t 18) (.c (.int .i64 0))))⟩,
    ⟨(some (15, true)), .s (.v 20 (.load true 4 (.t 19)))⟩,
    ⟨(some (15, true)), .call (some 21) (.c (.func 68 [])) [(.t 16), (.t 20)]⟩,
    ⟨(some (15, true)), .s (.v 22 (.mov (.t 21)))⟩,
    ⟨(some (22, false)), .s (.v 23 (.mov (.t 0)))⟩,
    ⟨(some (22, false)), .s (.v 24 (.faddr 3 false 1 (.t 3)))⟩,
    ⟨(some (22, false)), .s (.v 25 (.load false 1 (.t 24)))⟩,
    ⟨(some (22, false)), .s (.v 26 (.iaddr 4 (.t 25) (.c (.int .i64 1))))⟩,
    ⟨(some (22, false)), .s (.v 27 (.load true 4 (.t 26)))⟩,
    ⟨(some (22, false)), .call (some 28) (.c (.func 68 [])) [(.t 23), (.t 27)]⟩,
    ⟨(some (15, true)), .s (.v 29 (.pick (.t 22) (.c (.bool true)) (.t 28)))⟩,
    ⟨none, .s (.v 30 (.pick (.t 15) (.t 29) (.c (.bool false))))⟩,
    ⟨none, .s (.v 4 (.mov (.t 30)))⟩])
  .ret)))
def r_impl_occurs : List RV := [.tmp 4]

/-- spec.l05Alike -/
def c_spec_l05Alike : C :=
  (.seq (.region [⟨none, .s (.box 4 none (.t 1))⟩,
    ⟨none, .s (.alloc 6 none (.agg [.int .i64 0, .int .i64 0, .str [], .slice 4 .nil []]))⟩])
  (.seq (.seq (.region [⟨none, .s (.v 8 (.mov (.t 0)))⟩,
    ⟨none, .call (some 9) (.c (.func 119 [])) [(.t 8), (.c (.int .i64 6))]⟩])
  (.cond (.t 9)
    (.seq (.region [⟨none, .s (.v 10 (.mov (.t 0)))⟩,
      ⟨none, .s (.v 11 (.mov (.t 2)))⟩,
      ⟨none, .call (some 12) (.c (.func 51 [])) [(.t 10), (.c (.int .i64 4)), (.t 11)]⟩,
      ⟨none, .s (.store 4 (.t 6) (.t 12))⟩])
    .ret)
    .skip))
  (.seq (.seq (.region [⟨none, .s (.v 13 (.faddr 0 false 1 (.t 4)))⟩,
    ⟨none, .s (.v 14 (.load false 1 (.t 13)))⟩,
    ⟨none, .s (.v 15 (.bin .eql false (.t 14) (.c (.int .i64 4))))⟩])
  (.cond (.t 15)
    (.seq (.region [⟨none, .s (.v 16 (.mov (.t 0)))⟩,
      ⟨none, .s (.v 17 (.faddr 3 false 1 (.t 4)))⟩,
      ⟨none, .s (.v 18 (.load false 1 (.t 17)))⟩,
      ⟨none, .s (.v 19 (.iaddr 4 (.t 18) (.c (.int .i64 0))))⟩,
      ⟨none, .s (.v 20 (.load true 4 (.t 19)))⟩,
      ⟨none, .s (.v 21 (.mov (.t 2)))⟩,
      ⟨none, .call (some 22) (.c (.func 69 [])) [(.t 16), (.t 20), (.t 21)]⟩,
      ⟨none, .s (.alloc 7 none (.agg [.int .i64 0, .int .i64 0, .str [], .slice 4 .nil []]))⟩,
      ⟨none, .s (.store 4 (.t 7) (.t 22))⟩])
    (.seq (.drawn false 33 [⟨none, .s (.v 23 (.load true 4 (.t 7)))⟩,
      ⟨none, .s (.v 24 (.mov (.t 0)))⟩,
      ⟨none, .s (.v 25 (.faddr 3 false 1 (.t 4)))⟩,
      ⟨none, .s (.v 26 (.load false 1 (.t 25)))⟩,
      ⟨none, .s (.v 27 (.iaddr 4 (.t 26) (.c (.int .i64 1))))⟩,
      ⟨none, .s (.v 28 (.load true 4 (.t 27)))⟩,
      ⟨none, .s (.v 29 (.mov (.t 2)))⟩,
      ⟨none, .call (some 30) (.c (.func 69 [])) [(.t 24), (.t 28), (.t 29)]⟩,
      ⟨none, .call (some 31) (.c (.func 104 [])) [(.t 23), (.t 30)]⟩,
      ⟨none, .s (.store 4 (.t 6) (.t 31))⟩])
    .ret))
    .skip))
  (.seq (.region [⟨none, .s (.v 32 (.load true 4 (.t 4)))⟩,
    ⟨none, .s (.store 4 (.t 6) (.t 32))⟩])
  .ret))))
def r_spec_l05Alike : List RV := [.cell 6 true 4]

/-- impl.eachVar -/
def c_impl_eachVar : C :=
  (.seq (.region [⟨none, .s (.box 2 none (.t 0))⟩])
  (.seq (.seq (.region [⟨none, .s (.v 4 (.faddr 0 false 1 (.t 2)))⟩,
    ⟨none, .s (.v 5 (.load false 1 (.t 4)))⟩,
    ⟨none, .s (.v 6 (.bin .eql false (.t 5) (.c (.int .i64 1))))⟩])
  (.cond (.t 6)
    (.region [⟨none, .s (.v 7 (.mov (.t 1)))⟩,
      ⟨none, .s (.v 8 (.faddr 1 false 1 (.t 2)))⟩,
      ⟨none, .s (.v 9 (.load false 1 (.t 8)))⟩,
      ⟨none, .call (some 10) (.t 7) [(.t 9)]⟩])
    .skip))
  (.seq (.region [⟨none, .s (.v 11 (.faddr 0 false 1 (.t 2)))⟩,
    ⟨none, .s (.v 12 (.load false 1 (.t 11)))⟩,
    ⟨none, .s (.v 13 (.bin .eql false (.t 12) (.c (.int .i64 4))))⟩])
  (.cond (.t 13)
    (.seq (.region [⟨none, .s (.v 14 (.faddr 3 false 1 (.t 2)))⟩,
      ⟨none, .s (.v 15 (.load false 1 (.t 14)))⟩,
      ⟨none, .s (.v 16 (.iaddr 4 (.t 15) (.c (.int .i64 0))))⟩,
      ⟨none, .s (.v 17 (.load true 4 (.t 16)))⟩,
      ⟨none, .s (.v 18 (.mov (.t 1)))⟩,
      ⟨none, .call (some 19) (.c (.func 70 [])) [(.t 17), (.t 18)]⟩])
    (.region [⟨none, .s (.v 20 (.faddr 3 false 1 (.t 2)))⟩,
      ⟨none, .s (.v 21 (.load false 1 (.t 20)))⟩,
      ⟨none, .s (.v 22 (.iaddr 4 (.t 21) (.c (.int .i64 1))))⟩,
      ⟨none, .s (.v 23 (.load true 4 (.t 22)))⟩,
      ⟨none, .s (.v 24 (.mov (.t 1)))⟩,
      ⟨none, .call (some 25) (.c (.func 70 [])) [(.t 23), (.t 24)]⟩]))
    .skip))))
def r_impl_eachVar : List RV := []

/-- impl.TermVars$1 -/
def c_impl_TermVars_1 : C :=
  (.region [⟨none, .s (.v 3 (.load false 1 (.t 1)))⟩,
    ⟨none, .s (.v 4 (.mov (.t 0)))⟩,
    ⟨none, .s (.mput false (.t 3) (.t 4) (.c (.bool true)))⟩])
def r_impl_TermVars_1 : List RV := []

/-- impl.sortedInts -/
def c_impl_sortedInts : C :=
  (.seq (.region [⟨none, .s (.v 2 (.mov (.c (.slice 1 .nil []))))⟩])
  (.seq (.region [⟨none, .s (.bslm 5 (some 306) 1 3 [])⟩,
    ⟨none, .s (.v 3 (.mov (.t 5)))⟩])
  (.seq (.seq (.region [⟨none, .s (.v 6 (.mov (.t 0)))⟩,
    ⟨none, .s (.range 7 none (.t 6))⟩])
  (.block 0 
    (.loop 
      (.seq (.region [⟨none, .next 8 (.t 7)⟩,
        ⟨none, .s (.v 9 (.ext 0 (.t 8)))⟩])
      (.seq (.cond (.t 9)
        .skip
        (.exit 0))
      (.block 1 
        (.seq (.region [⟨none, .s (.v 10 (.ment (.t 7)))⟩,
          ⟨none, .s (.v 11 (.ext 0 (.t 10)))⟩,
          ⟨none, .s (.v 4 (.mov (.t 11)))⟩])
        (.region [⟨none, .s (.v 12 (.mov (.t 3)))⟩,
          ⟨none, .s (.v 13 (.mov (.t 4)))⟩,
          ⟨none, .s (.bsl 14 1 3 [(.t 13)])⟩,
          ⟨none, .s (.appm 15 none 1 3 (.t 12) (.t 14))⟩,
          ⟨none, .s (.v 3 (.mov (.t 15)))⟩]))))))))
  (.seq (.region [⟨none, .s (.v 16 (.mov (.t 3)))⟩,
    ⟨none, .call (some 17) (.c (.func 120 [])) [(.t 16)]⟩])
  (.seq (.pub 3 (.region [⟨none, .s (.v 18 (.mov (.t 3)))⟩,
    ⟨none, .s (.v 2 (.mov (.t 18)))⟩]))
  .ret)))))
def r_impl_sortedInts : List RV := [.tmp 2]

/-- spec.l01Below -/
def c_spec_l01Below : C :=
  (.seq (.region [⟨none, .s (.v 4 (.mov (.c (.int .i64 0))))⟩])
  (.seq (.seq (.region [⟨none, .s (.v 5 (.mov (.t 1)))⟩,
    ⟨none, .s (.v 6 (.bin .leq false (.t 5) (.c (.int .i64 0))))⟩])
  (.cond (.t 6)
    (.seq (.region [⟨none, .s (.v 4 (.mov (.c (.int .i64 0))))⟩])
    .ret)
    .skip))
  (.seq (.region [⟨none, .s (.v 7 (.mov (.t 0)))⟩,
    ⟨none, .call (some 8) (.c (.func 103 [])) [(.t 7)]⟩,
    ⟨none, .s (.v 9 (.mov (.t 1)))⟩,
    ⟨none, .s (.v 10 (.bin .rem false (.t 8) (.t 9)))⟩,
    ⟨none, .s (.v 4 (.mov (.t 10)))⟩])
  .ret)))
def r_spec_l01Below : List RV := [.tmp 4]

/-- spec.l01New -/
def c_spec_l01New : C :=
  (.seq (.region [⟨none, .s (.v 2 (.mov (.c (.nilp))))⟩])
  (.seq (.region [⟨none, .s (.v 5 (.mov (.t 0)))⟩,
    ⟨none, .s (.v 6 (.len (.t 5)))⟩,
    ⟨none, .s (.v 7 (.bin .add false (.c (.int .i64 90411)) (.t 6)))⟩,
    ⟨none, .s (.v 3 (.mov (.t 7)))⟩])
  (.seq (.seq (.region [⟨none, .s (.v 4 (.mov (.c (.int .i64 0))))⟩])
  (.block 0 
    (.loop 
      (.seq (.seq (.region [⟨none, .s (.v 8 (.mov (.t 4)))⟩,
        ⟨none, .s (.v 9 (.mov (.t 0)))⟩,
        ⟨none, .s (.v 10 (.len (.t 9)))⟩,
        ⟨none, .s (.v 11 (.bin .lss false (.t 8) (.t 10)))⟩,
        ⟨none, .s (.v 12 (.mov (.t 11)))⟩,
        ⟨(some (12, true)), .s (.v 13 (.mov (.t 4)))⟩,
        ⟨(some (12, true)), .s (.v 14 (.bin .lss false (.t 13) (.c (.int .i64 4000))))⟩,
        ⟨none, .s (.v 15 (.pick (.t 12) (.t 14) (.c (.bool false))))⟩])
      (.cond (.t 15)
        .skip
        (.exit 0)))
      (.seq (.block 1 
        (.region [⟨none, .s (.v 18 (.mov (.t 3)))⟩,
          ⟨none, .s (.v 19 (.bin .mul false (.t 18) (.c (.int .i64 131))))⟩,
          ⟨none, .s (.v 20 (.mov (.t 0)))⟩,
          ⟨none, .s (.v 21 (.mov (.t 4)))⟩,
          ⟨none, .s (.v 22 (.iaddr 1 (.t 20) (.t 21)))⟩,
          ⟨none, .s (.v 23 (.load false 1 (.t 22)))⟩,
          ⟨none, .s (.v 24 (.conv .i64 (.t 23)))⟩,
          ⟨none, .s (.v 25 (.bin .add false (.t 19) (.t 24)))⟩,
          ⟨none, .s (.v 26 (.bin .add false (.t 25) (.c (.int .i64 7))))⟩,
          ⟨none, .s (.v 27 (.bin .and false (.t 26) (.c (.int .i64 1073741823))))⟩,
          ⟨none, .s (.v 3 (.mov (.t 27)))⟩]))
      (.region [⟨none, .s (.v 16 (.mov (.t 4)))⟩,
        ⟨none, .s (.v 17 (.bin .add false (.t 16) (.c (.int .i64 1))))⟩,
        ⟨none, .s (.v 4 (.mov (.t 17)))⟩]))))))
  (.seq (.region [⟨none, .s (.v 28 (.mov (.t 0)))⟩,
    ⟨none, .s (.v 29 (.mov (.t 3)))⟩,
    ⟨none, .s (.v 30 (.build [.slice 1 .nil [], .int .i64 0, .int .i64 0] [(0, 1, (.t 28)), (2, 1, (.t 29))]))⟩,
    ⟨none, .s (.box 31 (some 401) (.t 30))⟩,
    ⟨none, .s (.v 2 (.mov (.t 31)))⟩])
  .ret))))
def r_spec_l01New : List RV := [.tmp 2]

/-- spec.l01Byte -/
def c_spec_l01Byte : C :=
  (.seq (.region [⟨none, .s (.v 2 (.mov (.c (.int .i64 0))))⟩])
  (.seq (.region [⟨none, .s (.v 4 (.mov (.t 0)))⟩,
    ⟨none, .s (.v 5 (.mov (.t 0)))⟩,
    ⟨none, .s (.v 6 (.nck (.t 5)))⟩,
    ⟨none, .s (.v 7 (.faddr 2 false 1 (.t 6)))⟩,
    ⟨none, .s (.v 8 (.load false 1 (.t 7)))⟩,
    ⟨none, .s (.v 9 (.bin .mul true (.t 8) (.c (.int .i64 6364136223846793005))))⟩,
    ⟨none, .s (.v 10 (.bin .add true (.t 9) (.c (.int .i64 1442695040888963407))))⟩,
    ⟨none, .s (.v 11 (.nck (.t 4)))⟩,
    ⟨none, .s (.v 12 (.faddr 2 false 1 (.t 11)))⟩,
    ⟨none, .s (.store 1 (.t 12) (.t 10))⟩])
  (.seq (.drawn true 58 [⟨none, .s (.v 13 (.mov (.t 0)))⟩,
    ⟨none, .s (.v 14 (.nck (.t 13)))⟩,
    ⟨none, .s (.v 15 (.faddr 2 false 1 (.t 14)))⟩,
    ⟨none, .s (.v 16 (.load false 1 (.t 15)))⟩,
    ⟨none, .s (.v 17 (.bin .shr false (.t 16) (.c (.int .u64 33))))⟩,
    ⟨none, .s (.v 18 (.mov (.t 0)))⟩,
    ⟨none, .s (.v 19 (.nck (.t 18)))⟩,
    ⟨none, .s (.v 20 (.faddr 2 false 1 (.t 19)))⟩,
    ⟨none, .s (.v 21 (.load false 1 (.t 20)))⟩,
    ⟨none, .s (.v 22 (.bin .shr false (.t 21) (.c (.int .u64 45))))⟩,
    ⟨none, .s (.v 23 (.bin .xor false (.t 17) (.t 22)))⟩,
    ⟨none, .s (.v 24 (.bin .and false (.t 23) (.c (.int .i64 255))))⟩,
    ⟨none, .s (.v 3 (.mov (.t 24)))⟩])
  (.seq (.seq (.drawn true 58 [⟨none, .s (.v 25 (.mov (.t 0)))⟩,
    ⟨none, .s (.v 26 (.nck (.t 25)))⟩,
    ⟨none, .s (.v 27 (.faddr 1 false 1 (.t 26)))⟩,
    ⟨none, .s (.v 28 (.load false 1 (.t 27)))⟩,
    ⟨none, .s (.v 29 (.mov (.t 0)))⟩,
    ⟨none, .s (.v 30 (.nck (.t 29)))⟩,
    ⟨none, .s (.v 31 (.faddr 0 false 1 (.t 30)))⟩,
    ⟨none, .s (.v 32 (.load false 1 (.t 31)))⟩,
    ⟨none, .s (.v 33 (.len (.t 32)))⟩,
    ⟨none, .s (.v 34 (.bin .lss false (.t 28) (.t 33)))⟩])
  (.cond (.t 34)
    (.seq (.drawn true 58 [⟨none, .s (.v 35 (.mov (.t 3)))⟩,
      ⟨none, .s (.v 36 (.mov (.t 0)))⟩,
      ⟨none, .s (.v 37 (.nck (.t 36)))⟩,
      ⟨none, .s (.v 38 (.faddr 0 false 1 (.t 37)))⟩,
      ⟨none, .s (.v 39 (.load false 1 (.t 38)))⟩,
      ⟨none, .s (.v 40 (.mov (.t 0)))⟩,
      ⟨none, .s (.v 41 (.nck (.t 40)))⟩,
      ⟨none, .s (.v 42 (.faddr 1 false 1 (.t 41)))⟩,
      ⟨none, .s (.v 43 (.load false 1 (.t 42)))⟩,
      ⟨none, .s (.v 44 (.iaddr 1 (.t 39) (.t 43)))⟩,
      ⟨none, .s (.v 45 (.load false 1 (.t 44)))⟩,
      ⟨none, .s (.v 46 (.conv .i64 (.t 45)))⟩,
      ⟨none, .s (.v 47 (.bin .add false (.t 35) (.t 46)))⟩,
      ⟨none, .s (.v 48 (.bin .and false (.t 47) (.c (.int .i64 255))))⟩,
      ⟨none, .s (.v 3 (.mov (.t 48)))⟩])
    (.region [⟨none, .s (.v 49 (.mov (.t 0)))⟩,
      ⟨none, .s (.v 50 (.mov (.t 0)))⟩,
      ⟨none, .s (.v 51 (.nck (.t 50)))⟩,
      ⟨none, .s (.v 52 (.faddr 1 false 1 (.t 51)))⟩,
      ⟨none, .s (.v 53 (.load false 1 (.t 52)))⟩,
      ⟨none, .s (.v 54 (.bin .add false (.t 53) (.c (.int .i64 1))))⟩,
      ⟨none, .s (.v 55 (.nck (.t 49)))⟩,
      ⟨none, .s (.v 56 (.faddr 1 false 1 (.t 55)))⟩,
      ⟨none, .s (.store 1 (.t 56) (.t 54))⟩]))
    .skip))
  (.seq (.region [⟨none, .s (.v 57 (.mov (.t 3)))⟩,
    ⟨none, .s (.v 2 (.mov (.t 57)))⟩])
  .ret)))))
def r_spec_l01Byte : List RV := [.tmp 2]

/-- spec.l02Pair -/
def c_spec_l02Pair : C :=
  (.seq (.region [⟨none, .s (.box 2 none (.t 0))⟩,
    ⟨none, .s (.box 3 none (.t 1))⟩,
    ⟨none, .s (.alloc 4 none (.agg [.int .i64 0, .int .i64 0, .str [], .slice 4 .nil []]))⟩])
  (.seq (.region [⟨none, .s (.v 5 (.load true 4 (.t 2)))⟩,
    ⟨none, .s (.v 6 (.load true 4 (.t 3)))⟩,
    ⟨none, .s (.bsl 7 4 26 [(.t 5), (.t 6)])⟩,
    ⟨none, .s (.v 8 (.build [.int .i64 0, .int .i64 0, .str [], .slice 4 .nil []] [(0, 1, (.c (.int .i64 4))), (3, 1, (.t 7))]))⟩,
    ⟨none, .s (.store 4 (.t 4) (.t 8))⟩])
  .ret))
def r_spec_l02Pair : List RV := [.cell 4 true 4]

/-- spec.l02Var -/
def c_spec_l02Var : C :=
  (.seq (.region [⟨none, .s (.alloc 2 none (.agg [.int .i64 0, .int .i64 0, .str [], .slice 4 .nil []]))⟩])
  (.seq (.region [⟨none, .s (.v 3 (.mov (.t 0)))⟩,
    ⟨none, .s (.v 4 (.build [.int .i64 0, .int .i64 0, .str [], .slice 4 .nil []] [(0, 1, (.c (.int .i64 1))), (1, 1, (.t 3))]))⟩,
    ⟨none, .s (.store 4 (.t 2) (.t 4))⟩])
  .ret))
def r_spec_l02Var : List RV := [.cell 2 true 4]

/-- spec.l02Atom -/
def c_spec_l02Atom : C :=
  (.seq (.region [⟨none, .s (.alloc 2 none (.agg [.int .i64 0, .int .i64 0, .str [], .slice 4 .nil []]))⟩])
  (.seq (.region [⟨none, .s (.v 4 (.mov (.t 0)))⟩,
    ⟨none, .call (some 5) (.c (.func 101 [])) [(.t 4), (.c (.int .i64 7))]⟩,
    ⟨none, .s (.v 3 (.mov (.t 5)))⟩])
  (.seq (.seq (.region [⟨none, .s (.v 6 (.mov (.t 3)))⟩,
    ⟨none, .s (.v 7 (.bin .lss false (.t 6) (.c (.int .i64 2))))⟩])
  (.cond (.t 7)
    (.seq (.region [⟨none, .s (.v 8 (.mov (.t 3)))⟩,
      ⟨none, .call (some 9) (.c (.func 144 [])) [(.t 8)]⟩,
      ⟨none, .s (.store 4 (.t 2) (.t 9))⟩])
    .ret)
    .skip))
  (.seq (.seq (.region [⟨none, .s (.v 10 (.mov (.t 3)))⟩,
    ⟨none, .s (.v 11 (.bin .lss false (.t 10) (.c (.int .i64 5))))⟩])
  (.cond (.t 11)
    (.seq (.region [⟨none, .s (.bsl 12 1 9 [(.c (.str [97])), (.c (.str [98])), (.c (.str [99]))])⟩,
      ⟨none, .s (.v 13 (.mov (.t 3)))⟩,
      ⟨none, .s (.v 14 (.bin .sub false (.t 13) (.c (.int .i64 2))))⟩,
      ⟨none, .s (.v 15 (.iaddr 1 (.t 12) (.t 14)))⟩,
      ⟨none, .s (.v 16 (.load false 1 (.t 15)))⟩,
      ⟨none, .call (some 17) (.c (.func 145 [])) [(.t 16)]⟩,
      ⟨none, .s (.store 4 (.t 2) (.t 17))⟩])
    .ret)
    .skip))
  (.seq (.region [⟨none, .s (.v 18 (.build [.int .i64 0, .int .i64 0, .str [], .slice 4 .nil []] []))⟩,
    ⟨none, .s (.store 4 (.t 2) (.t 18))⟩])
  .ret)))))
def r_spec_l02Atom : List RV := [.cell 2 true 4]

/-- spec.l04Get -/
def c_spec_l04Get : C :=
  (.seq (.region [⟨none, .s (.alloc 4 none (.agg [.int .i64 0, .int .i64 0, .str [], .slice 4 .nil []]))⟩,
    ⟨none, .s (.v 5 (.mov (.c (.bool false))))⟩])
  (.seq (.seq (.region [⟨none, .s (.v 8 (.mov (.t 0)))⟩,
    ⟨none, .s (.v 9 (.len (.t 8)))⟩,
    ⟨none, .s (.v 10 (.mov (.c (.int .i64 0))))⟩])
  (.block 0 
    (.loop 
      (.seq (.region [⟨none, .s (.v 11 (.bin .lss false (.t 10) (.t 9)))⟩])
      (.seq (.cond (.t 11)
        .skip
        (.exit 0))
      (.seq (.block 1 
        (.seq (.region [⟨none, .s (.v 12 (.iaddr 5 (.t 8) (.t 10)))⟩,
          ⟨none, .s (.v 13 (.load true 5 (.t 12)))⟩,
          ⟨none, .s (.alloc 7 none (.agg [.int .i64 0, .int .i64 0, .int .i64 0, .str [], .slice 4 .nil []]))⟩,
          ⟨none, .s (.store 5 (.t 7) (.t 13))⟩])
        (.seq (.region [⟨none, .s (.v 14 (.faddr 0 false 1 (.t 7)))⟩,
          ⟨none, .s (.v 15 (.load false 1 (.t 14)))⟩,
          ⟨none, .s (.v 16 (.mov (.t 1)))⟩,
          ⟨none, .s (.v 17 (.bin .eql false (.t 15) (.t 16)))⟩])
        (.cond (.t 17)
          (.seq (.region [⟨none, .s (.v 18 (.faddr 1 true 4 (.t 7)))⟩,
            ⟨none, .s (.v 19 (.load true 4 (.t 18)))⟩,
            ⟨none, .s (.store 4 (.t 4) (.t 19))⟩,
            ⟨none, .s (.v 5 (.mov (.c (.bool true))))⟩])
          .ret)
          .skip))))
      (.region [⟨none, .s (.v 20 (.bin .add false (.t 10) (.c (.int .i64 1))))⟩,
        ⟨none, .s (.v 10 (.mov (.t 20)))⟩])))))))
  (.seq (.region [⟨none, .s (.v 21 (.build [.int .i64 0, .int .i64 0, .str [], .slice 4 .nil []] []))⟩,
    ⟨none, .s (.store 4 (.t 4) (.t 21))⟩,
    ⟨none, .s (.v 5 (.mov (.c (.bool false))))⟩])
  .ret)))
def r_spec_l04Get : List RV := [.cell 4 true 4, .tmp 5]

/-- impl.nodesOf -/
def c_impl_nodesOf : C :=
  (.seq (.region [⟨none, .s (.box 2 none (.t 0))⟩,
    ⟨none, .s (.v 4 (.mov (.c (.int .i64 0))))⟩])
  (.seq (.seq (.region [⟨none, .s (.v 7 (.mov (.t 1)))⟩,
    ⟨none, .s (.v 8 (.bin .lss false (.t 7) (.c (.int .i64 1))))⟩])
  (.cond (.t 8)
    (.seq (.region [⟨none, .s (.v 4 (.mov (.c (.int .i64 (-1)))))⟩])
    .ret)
    .skip))
  (.seq (.seq (.region [⟨none, .s (.v 9 (.faddr 0 false 1 (.t 2)))⟩,
    ⟨none, .s (.v 10 (.load false 1 (.t 9)))⟩,
    ⟨none, .s (.v 11 (.bin .neq false (.t 10) (.c (.int .i64 4))))⟩])
  (.cond (.t 11)
    (.seq (.seq (.region [⟨none, .s (.v 12 (.faddr 3 false 1 (.t 2)))⟩,
      ⟨none, .s (.v 13 (.load false 1 (.t 12)))⟩,
      ⟨none, .s (.v 14 (.len (.t 13)))⟩,
      ⟨none, .s (.v 15 (.bin .neq false (.t 14) (.c (.int .i64 0))))⟩])
    (.cond (.t 15)
      (.seq (.region [⟨none, .s (.v 4 (.mov (.c (.int .i64 (-1)))))⟩])
      .ret)
      .skip))
    (.seq (.seq (.region [⟨none, .s (.v 16 (.faddr 0 false 1 (.t 2)))⟩,
      ⟨none, .s (.v 17 (.load false 1 (.t 16)))⟩])
    (.block 0 
      (.seq (.region [⟨none, .s (.v 19 (.bin .eql false (.t 17) (.c (.int .i64 0))))⟩,
        ⟨none, .s (.v 18 (.mov (.t 19)))⟩])
      (.cond (.t 18)
        (.seq (.region [⟨none, .s (.v 20 (.faddr 1 false 1 (.t 2)))⟩,
          ⟨none, .s (.v 21 (.load false 1 (.t 20)))⟩,
          ⟨none, .s (.v 22 (.bin .neq false (.t 21) (.c (.int .i64 0))))⟩,
          ⟨none, .s (.v 23 (.mov (.t 22)))⟩,
          ⟨(some (23, false)), .s (.v 24 (.faddr 2 false 1 (.t 2)))⟩,
          ⟨(some (23, false)), .s (.v 25 (.load false 1 (.t 24)))⟩,
          ⟨(some (23, false)), .s (.v 26 (.bin .neq false (.t 25) (.c (.str []))))⟩,
          ⟨none, .s (.v 27 (.pick (.t 23) (.c (.bool true)) (.t 26)))⟩])
        (.cond (.t 27)
          (.seq (.region [⟨none, .s (.v 4 (.mov (.c (.int .i64 (-1)))))⟩])
          .ret)
          .skip))
        (.seq (.region [⟨none, .s (.v 29 (.bin .eql false (.t 17) (.c (.int .i64 1))))⟩,
          ⟨none, .s (.v 28 (.mov (.t 29)))⟩])
        (.cond (.t 28)
          (.seq (.region [⟨none, .s (.v 30 (.faddr 1 false 1 (.t 2)))⟩,
            ⟨none, .s (.v 31 (.load false 1 (.t 30)))⟩,
            ⟨none, .s (.v 32 (.bin .lss false (.t 31) (.c (.int .i64 0))))⟩,
            ⟨none, .s (.v 33 (.mov (.t 32)))⟩,
            ⟨(some (33, false)), .s (.v 34 (.faddr 1 false 1 (.t 2)))⟩,
            ⟨(some (33, false)), .s (.v 35 (.load false 1 (.t 34)))⟩,
            ⟨(some (33, false)), .s (.v 36 (.bin .gtr false (.t 35) (.c (.int .i64 100000))))⟩,
            ⟨none, .s (.v 37 (.pick (.t 33) (.c (.bool true)) (.t 36)))⟩,
            ⟨none, .s (.v 38 (.mov (.t 37)))⟩,
            ⟨(some (38, false)), .s (.v 39 (.faddr 2 false 1 (.t 2)))⟩,
            ⟨(some (38, false)), .s (.v 40 (.load false 1 (.t 39)))⟩,
            ⟨(some (38, false)), .s (.v 41 (.bin .neq false (.t 40) (.c (.str []))))⟩,
            ⟨none, .s (.v 42 (.pick (.t 38) (.c (.bool true)) (.t 41)))⟩])
          (.cond (.t 42)
            (.seq (.region [⟨none, .s (.v 4 (.mov (.c (.int .i64 (-1)))))⟩])
            .ret)
            .skip))
          (.seq (.region [⟨none, .s (.v 44 (.bin .eql false (.t 17) (.c (.int .i64 2))))⟩,
            ⟨none, .s (.v 43 (.mov (.t 44)))⟩])
          (.cond (.t 43)
            (.seq (.region [⟨none, .s (.v 45 (.faddr 1 false 1 (.t 2)))⟩,
              ⟨none, .s (.v 46 (.load false 1 (.t 45)))⟩,
              ⟨none, .s (.v 47 (.bin .neq false (.t 46) (.c (.int .i64 0))))⟩,
              ⟨none, .s (.v 48 (.mov (.t 47)))⟩,
              ⟨(some (48, false)), .s (.v 49 (.faddr 2 false 1 (.t 2)))⟩,
              ⟨(some (48, false)), .s (.v 50 (.load false 1 (.t 49)))⟩,
              ⟨(some (48, false)), .call (some 51) (.c (.func 146 [])) [(.t 50)]⟩,
              ⟨(some (48, false)), .s (.v 52 (.notB (.t 51)))⟩,
              ⟨none, .s (.v 53 (.pick (.t 48) (.c (.bool true)) (.t 52)))⟩])
            (.cond (.t 53)
              (.seq (.region [⟨none, .s (.v 4 (.mov (.c (.int .i64 (-1)))))⟩])
              .ret)
              .skip))
            (.seq (.region [⟨none, .s (.v 55 (.bin .eql false (.t 17) (.c (.int .i64 3))))⟩,
              ⟨none, .s (.v 54 (.mov (.t 55)))⟩])
            (.cond (.t 54)
              (.seq (.region [⟨none, .s (.v 56 (.faddr 1 false 1 (.t 2)))⟩,
                ⟨none, .s (.v 57 (.load false 1 (.t 56)))⟩,
                ⟨none, .s (.v 58 (.bin .lss false (.t 57) (.c (.int .i64 (-1000000000)))))⟩,
                ⟨none, .s (.v 59 (.mov (.t 58)))⟩,
                ⟨(some (59, false)), .s (.v 60 (.faddr 1 false 1 (.t 2)))⟩,
                ⟨(some (59, false)), .s (.v 61 (.load false 1 (.t 60)))⟩,
                ⟨(some (59, false)), .s (.v 62 (.bin .gtr false (.t 61) (.c (.int .i64 1000000000))))⟩,
                ⟨none, .s (.v 63 (.pick (.t 59) (.c (.bool true)) (.t 62)))⟩,
                ⟨none, .s (.v 64 (.mov (.t 63)))⟩,
                ⟨(some (64, false)), .s (.v 65 (.faddr 2 false 1 (.t 2)))⟩,
                ⟨(some (64, false)), .s (.v 66 (.load false 1 (.t 65)))⟩,
                ⟨(some (64, false)), .s (.v 67 (.bin .neq false (.t 66) (.c (.str []))))⟩,
                ⟨none, .s (.v 68 (.pick (.t 64) (.c (.bool true)) (.t 67)))⟩])
              (.cond (.t 68)
                (.seq (.region [⟨none, .s (.v 4 (.mov (.c (.int .i64 (-1)))))⟩])
                .ret)
                .skip))
              (.seq (.region [⟨none, .s (.v 4 (.mov (.c (.int .i64 (-1)))))⟩])
              .ret)))))))))))
    (.seq (.region [⟨none, .s (.v 4 (.mov (.c (.int .i64 1))))⟩])
    .ret)))
    .skip))
  (.seq (.seq (.region [⟨none, .s (.v 69 (.faddr 1 false 1 (.t 2)))⟩,
    ⟨none, .s (.v 70 (.load false 1 (.t 69)))⟩,
    ⟨none, .s (.v 71 (.bin .neq false (.t 70) (.c (.int .i64 0))))⟩,
    ⟨none, .s (.v 72 (.mov (.t 71)))⟩,
    ⟨(some (72, false)), .s (.v 73 (.faddr 2 false 1 (.t 2)))⟩,
    ⟨(some (72, false)), .s (.v 74 (.load false 1 (.t 73)))⟩,
    ⟨(some (72, false)), .s (.v 75 (.bin .neq false (.t 74) (.c (.str []))))⟩,
    ⟨none, .s (.v 76 (.pick (.t 72) (.c (.bool true)) (.t 75)))⟩,
    ⟨none, .s (.v 77 (.mov (.t 76)))⟩,
    ⟨(some (77, false)), .s (.v 78 (.faddr 3 false 1 (.t 2)))⟩,
    ⟨(some (77, false)), .s (.v 79 (.load false 1 (.t 78)))⟩,
    ⟨(some (77, false)), .s (.v 80 (.len (.t 79)))⟩,
    ⟨(some (77, false)), .s (.v 81 (.bin .neq false (.t 80) (.c (.int .i64 2))))⟩,
    ⟨none, .s (.v 82 (.pick (.t 77) (.c (.bool true)) (.t 81)))⟩])
  (.cond (.t 82)
    (.seq (.region [⟨none, .s (.v 4 (.mov (.c (.int .i64 (-1)))))⟩])
    .ret)
    .skip))
  (.seq (.region [⟨none, .s (.v 83 (.faddr 3 false 1 (.t 2)))⟩,
    ⟨none, .s (.v 84 (.load false 1 (.t 83)))⟩,
    ⟨none, .s (.v 85 (.iaddr 4 (.t 84) (.c (.int .i64 0))))⟩,
    ⟨none, .s (.v 86 (.load true 4 (.t 85)))⟩,
    ⟨none, .s (.v 87 (.mov (.t 1)))⟩,
    ⟨none, .s (.v 88 (.bin .sub false (.t 87) (.c (.int .i64 1))))⟩,
    ⟨none, .call (some 89) (.c (.func 108 [])) [(.t 86), (.t 88)]⟩,
    ⟨none, .s (.v 5 (.mov (.t 89)))⟩])
  (.seq (.seq (.region [⟨none, .s (.v 90 (.mov (.t 5)))⟩,
    ⟨none, .s (.v 91 (.bin .lss false (.t 90) (.c (.int .i64 0))))⟩])
  (.cond (.t 91)
    (.seq (.region [⟨none, .s (.v 4 (.mov (.c (.int .i64 (-1)))))⟩])
    .ret)
    .skip))
  (.seq (.region [⟨none, .s (.v 92 (.faddr 3 false 1 (.t 2)))⟩,
    ⟨none, .s (.v 93 (.load false 1 (.t 92)))⟩,
    ⟨none, .s (.v 94 (.iaddr 4 (.t 93) (.c (.int .i64 1))))⟩,
    ⟨none, .s (.v 95 (.load true 4 (.t 94)))⟩,
    ⟨none, .s (.v 96 (.mov (.t 1)))⟩,
    ⟨none, .s (.v 97 (.bin .sub false (.t 96) (.c (.int .i64 1))))⟩,
    ⟨none, .s (.v 98 (.mov (.t 5)))⟩,
    ⟨none, .s (.v 99 (.bin .sub false (.t 97) (.t 98)))⟩,
    ⟨none, .call (some 100) (.c (.func 108 [])) [(.t 95), (.t 99)]⟩,
    ⟨none, .s (.v 6 (.mov (.t 100)))⟩])
  (.seq (.seq (.region [⟨none, .s (.v 101 (.mov (.t 6)))⟩,
    ⟨none, .s (.v 102 (.bin .lss false (.t 101) (.c (.int .i64 0))))⟩])
  (.cond (.t 102)
    (.seq (.region [⟨none, .s (.v 4 (.mov (.c (.int .i64 (-1)))))⟩])
    .ret)
    .skip))
  (.seq (.region [⟨none, .s (.v 103 (.mov (.t 5)))⟩,
    ⟨none, .s (.v 104 (.bin .add false (.c (.int .i64 1)) (.t 103)))⟩,
    ⟨none, .s (.v 105 (.mov (.t 6)))⟩,
    ⟨none, .s (.v 106 (.bin .add false (.t 104) (.t 105)))⟩,
    ⟨none, .s (.v 4 (.mov (.t 106)))⟩])
  .ret)))))))))
def r_impl_nodesOf : List RV := [.tmp 4]

/-- impl.replaced -/
def c_impl_replaced : C :=
  (.seq (.region [⟨none, .s (.box 2 none (.t 0))⟩,
    ⟨none, .s (.box 3 (some 202) (.t 1))⟩,
    ⟨none, .s (.alloc 4 none (.agg [.int .i64 0, .int .i64 0, .str [], .slice 4 .nil []]))⟩,
    ⟨none, .s (.v 5 (.mov (.c (.bool false))))⟩])
  (.seq (.region [⟨none, .s (.v 7 (.load true 4 (.t 2)))⟩,
    ⟨none, .s (.v 8 (.mkf 148 [(.t 3)]))⟩,
    ⟨none, .call (some 9) (.c (.func 147 [])) [(.t 7), (.t 8)]⟩,
    ⟨none, .s (.v 6 (.mov (.t 9)))⟩])
  (.seq (.seq (.region [⟨none, .s (.v 10 (.mov (.t 6)))⟩,
    ⟨none, .s (.v 11 (.bin .gtr false (.t 10) (.c (.int .i64 5000))))⟩])
  (.cond (.t 11)
    (.seq (.region [⟨none, .s (.v 12 (.build [.int .i64 0, .int .i64 0, .str [], .slice 4 .nil []] []))⟩,
      ⟨none, .s (.store 4 (.t 4) (.t 12))⟩,
      ⟨none, .s (.v 5 (.mov (.c (.bool false))))⟩])
    .ret)
    .skip))
  (.seq (.region [⟨none, .s (.v 13 (.load true 4 (.t 2)))⟩,
    ⟨none, .s (.v 14 (.load false 1 (.t 3)))⟩,
    ⟨none, .call (some 15) (.c (.func 149 [])) [(.t 13), (.t 14)]⟩,
    ⟨none, .s (.store 4 (.t 4) (.t 15))⟩,
    ⟨none, .s (.v 5 (.mov (.c (.bool true))))⟩])
  .ret))))
def r_impl_replaced : List RV := [.cell 4 true 4, .tmp 5]

/-- impl.put$1 -/
def c_impl_put_1 : C :=
  (.seq (.region [⟨none, .s (.alloc 3 none (.agg [.int .i64 0, .int .i64 0, .str [], .slice 4 .nil []]))⟩,
    ⟨none, .s (.v 4 (.mov (.c (.bool false))))⟩])
  (.seq (.seq (.region [⟨none, .s (.v 6 (.load false 1 (.t 1)))⟩,
    ⟨none, .s (.v 7 (.mov (.t 0)))⟩,
    ⟨none, .call (some 8) (.c (.func 111 [])) [(.t 6), (.t 7)]⟩,
    ⟨none, .s (.v 5 (.mov (.t 8)))⟩])
  (.seq (.region [⟨none, .s (.v 9 (.mov (.t 5)))⟩,
    ⟨none, .s (.v 10 (.bin .geq false (.t 9) (.c (.int .i64 0))))⟩])
  (.cond (.t 10)
    (.seq (.region [⟨none, .s (.v 11 (.load false 1 (.t 1)))⟩,
      ⟨none, .s (.v 12 (.mov (.t 5)))⟩,
      ⟨none, .s (.v 13 (.iaddr 5 (.t 11) (.t 12)))⟩,
      ⟨none, .s (.v 14 (.faddr 1 true 4 (.t 13)))⟩,
      ⟨none, .s (.v 15 (.load true 4 (.t 14)))⟩,
      ⟨none, .s (.store 4 (.t 3) (.t 15))⟩,
      ⟨none, .s (.v 4 (.mov (.c (.bool true))))⟩])
    .ret)
    .skip)))
  (.seq (.region [⟨none, .s (.v 16 (.build [.int .i64 0, .int .i64 0, .str [], .slice 4 .nil []] []))⟩,
    ⟨none, .s (.store 4 (.t 3) (.t 16))⟩,
    ⟨none, .s (.v 4 (.mov (.c (.bool false))))⟩])
  .ret)))
def r_impl_put_1 : List RV := [.cell 3 true 4, .tmp 4]

/-- impl.find -/
def c_impl_find : C :=
  (.seq (.region [⟨none, .s (.box 2 (some 101) (.t 0))⟩,
    ⟨none, .s (.box 3 (some 102) (.t 1))⟩,
    ⟨none, .s (.v 4 (.mov (.c (.int .i64 0))))⟩])
  (.seq (.region [⟨none, .s (.v 6 (.load false 1 (.t 2)))⟩,
    ⟨none, .s (.v 7 (.len (.t 6)))⟩,
    ⟨none, .s (.v 8 (.mkf 151 [(.t 2), (.t 3)]))⟩,
    ⟨none, .call (some 9) (.c (.func 150 [])) [(.t 7), (.t 8)]⟩,
    ⟨none, .s (.v 5 (.mov (.t 9)))⟩])
  (.seq (.seq (.drawn true 24 [⟨none, .s (.v 10 (.mov (.t 5)))⟩,
    ⟨none, .s (.v 11 (.load false 1 (.t 2)))⟩,
    ⟨none, .s (.v 12 (.len (.t 11)))⟩,
    ⟨none, .s (.v 13 (.bin .lss false (.t 10) (.t 12)))⟩,
    ⟨none, .s (.v 14 (.mov (.t 13)))⟩,
    ⟨(some (14, true)), .s (.v 15 (.load false 1 (.t 2)))⟩,
    ⟨(some (14, true)), .s (.v 16 (.mov (.t 5)))⟩,
    ⟨(some (14, true)), .s (.v 17 (.iaddr 5 (.t 15) (.t 16)))⟩,
    ⟨(some (14, true)), .s (.v 18 (.faddr 0 false 1 (.t 17)))⟩,
    ⟨(some (14, true)), .s (.v 19 (.load false 1 (.t 18)))⟩,
    ⟨(some (14, true)), .s (.v 20 (.load false 1 (.t 3)))⟩,
    ⟨(some (14, true)), .s (.v 21 (.bin .eql false (.t 19) (.t 20)))⟩,
    ⟨none, .s (.v 22 (.pick (.t 14) (.t 21) (.c (.bool false))))⟩])
  (.cond (.t 22)
    (.seq (.region [⟨none, .s (.v 23 (.mov (.t 5)))⟩,
      ⟨none, .s (.v 4 (.mov (.t 23)))⟩])
    .ret)
    .skip))
  (.seq (.region [⟨none, .s (.v 4 (.mov (.c (.int .i64 (-1)))))⟩])
  .ret))))
def r_impl_find : List RV := [.tmp 4]

/-- impl.equalTerms -/
def c_impl_equalTerms : C :=
  (.seq (.region [⟨none, .s (.box 2 none (.t 0))⟩,
    ⟨none, .s (.box 3 none (.t 1))⟩,
    ⟨none, .s (.v 4 (.mov (.c (.bool false))))⟩])
  (.seq (.region [⟨none, .s (.v 5 (.load true 4 (.t 2)))⟩,
    ⟨none, .s (.v 6 (.load true 4 (.t 3)))⟩,
    ⟨none, .call (some 7) (.c (.func 59 [])) [(.t 5), (.t 6)]⟩,
    ⟨none, .s (.v 8 (.bin .eql false (.t 7) (.c (.int .i64 0))))⟩,
    ⟨none, .s (.v 4 (.mov (.t 8)))⟩])
  .ret))
def r_impl_equalTerms : List RV := [.tmp 4]

/-- impl.orderInts -/
def c_impl_orderInts : C :=
  (.seq (.region [⟨none, .s (.v 4 (.mov (.c (.int .i64 0))))⟩])
  (.seq (.seq (.region [⟨none, .s (.v 5 (.mov (.t 0)))⟩,
    ⟨none, .s (.v 6 (.mov (.t 1)))⟩,
    ⟨none, .s (.v 7 (.bin .lss false (.t 5) (.t 6)))⟩])
  (.cond (.t 7)
    (.seq (.region [⟨none, .s (.v 4 (.mov (.c (.int .i64 (-1)))))⟩])
    .ret)
    .skip))
  (.seq (.seq (.region [⟨none, .s (.v 8 (.mov (.t 0)))⟩,
    ⟨none, .s (.v 9 (.mov (.t 1)))⟩,
    ⟨none, .s (.v 10 (.bin .gtr false (.t 8) (.t 9)))⟩])
  (.cond (.t 10)
    (.seq (.region [⟨none, .s (.v 4 (.mov (.c (.int .i64 1))))⟩])
    .ret)
    .skip))
  (.seq (.region [⟨none, .s (.v 4 (.mov (.c (.int .i64 0))))⟩])
  .ret))))
def r_impl_orderInts : List RV := [.tmp 4]

/-- impl.sortBindings$1 -/
def c_impl_sortBindings_1 : C :=
  (.seq (.region [⟨none, .s (.v 5 (.mov (.c (.bool false))))⟩])
  (.seq (.drawn true 17 [⟨none, .s (.v 6 (.load false 1 (.t 2)))⟩,
    ⟨none, .s (.v 7 (.mov (.t 0)))⟩,
    ⟨none, .s (.v 8 (.iaddr 5 (.t 6) (.t 7)))⟩,
    ⟨none, .s (.v 9 (.faddr 0 false 1 (.t 8)))⟩,
    ⟨none, .s (.v 10 (.load false 1 (.t 9)))⟩,
    ⟨none, .s (.v 11 (.load false 1 (.t 2)))⟩,
    ⟨none, .s (.v 12 (.mov (.t 1)))⟩,
    ⟨none, .s (.v 13 (.iaddr 5 (.t 11) (.t 12)))⟩,
    ⟨none, .s (.v 14 (.faddr 0 false 1 (.t 13)))⟩,
    ⟨none, .s (.v 15 (.load false 1 (.t 14)))⟩,
    ⟨none, .s (.v 16 (.bin .lss false (.t 10) (.t 15)))⟩,
    ⟨none, .s (.v 5 (.mov (.t 16)))⟩])
  .ret))
def r_impl_sortBindings_1 : List RV := [.tmp 5]

/-- spec.l01Once -/
def c_spec_l01Once : C :=
  (.seq (.region [⟨none, .s (.v 4 (.mov (.c (.bool false))))⟩])
  (.seq (.region [⟨none, .s (.v 5 (.mov (.t 0)))⟩,
    ⟨none, .s (.v 6 (.mov (.t 1)))⟩,
    ⟨none, .call (some 7) (.c (.func 101 [])) [(.t 5), (.t 6)]⟩,
    ⟨none, .s (.v 8 (.bin .eql false (.t 7) (.c (.int .i64 0))))⟩,
    ⟨none, .s (.v 4 (.mov (.t 8)))⟩])
  .ret))
def r_spec_l01Once : List RV := [.tmp 4]

/-- spec.l02Num -/
def c_spec_l02Num : C :=
  (.seq (.region [⟨none, .s (.alloc 2 none (.agg [.int .i64 0, .int .i64 0, .str [], .slice 4 .nil []]))⟩])
  (.seq (.region [⟨none, .s (.v 3 (.mov (.t 0)))⟩,
    ⟨none, .s (.v 4 (.build [.int .i64 0, .int .i64 0, .str [], .slice 4 .nil []] [(0, 1, (.c (.int .i64 3))), (1, 1, (.t 3))]))⟩,
    ⟨none, .s (.store 4 (.t 2) (.t 4))⟩])
  .ret))
def r_spec_l02Num : List RV := [.cell 2 true 4]

/-- spec.l02Sym -/
def c_spec_l02Sym : C :=
  (.seq (.region [⟨none, .s (.alloc 2 none (.agg [.int .i64 0, .int .i64 0, .str [], .slice 4 .nil []]))⟩])
  (.seq (.region [⟨none, .s (.v 3 (.mov (.t 0)))⟩,
    ⟨none, .s (.v 4 (.build [.int .i64 0, .int .i64 0, .str [], .slice 4 .nil []] [(0, 1, (.c (.int .i64 2))), (2, 1, (.t 3))]))⟩,
    ⟨none, .s (.store 4 (.t 2) (.t 4))⟩])
  .ret))
def r_spec_l02Sym : List RV := [.cell 2 true 4]

/-- impl.IsName -/
def c_impl_IsName : C :=
  (.seq (.region [⟨none, .s (.v 2 (.mov (.c (.bool false))))⟩])
  (.seq (.seq (.region [⟨none, .s (.v 4 (.mov (.t 0)))⟩,
    ⟨none, .s (.v 5 (.slen (.t 4)))⟩,
    ⟨none, .s (.v 6 (.bin .lss false (.t 5) (.c (.int .i64 1))))⟩,
    ⟨none, .s (.v 7 (.mov (.t 6)))⟩,
    ⟨(some (7, false)), .s (.v 8 (.mov (.t 0)))⟩,
    ⟨(some (7, false)), .s (.v 9 (.slen (.t 8)))⟩,
    ⟨(some (7, false)), .s (.v 10 (.bin .gtr false (.t 9) (.c (.int .i64 12))))⟩,
    ⟨none, .s (.v 11 (.pick (.t 7) (.c (.bool true)) (.t 10)))⟩,
    ⟨none, .s (.v 12 (.mov (.t 11)))⟩,
    ⟨(some (12, false)), .s (.v 13 (.mov (.t 0)))⟩,
    ⟨(some (12, false)), .s (.v 14 (.sidx (.t 13) (.c (.int .i64 0))))⟩,
    ⟨(some (12, false)), .s (.v 15 (.bin .lss false (.t 14) (.c (.int .u8 97))))⟩,
    ⟨none, .s (.v 16 (.pick (.t 12) (.c (.bool true)) (.t 15)))⟩,
    ⟨none, .s (.v 17 (.mov (.t 16)))⟩,
    ⟨(some (17, false)), .s (.v 18 (.mov (.t 0)))⟩,
    ⟨(some (17, false)), .s (.v 19 (.sidx (.t 18) (.c (.int .i64 0))))⟩,
    ⟨(some (17, false)), .s (.v 20 (.bin .gtr false (.t 19) (.c (.int .u8 122))))⟩,
    ⟨none, .s (.v 21 (.pick (.t 17) (.c (.bool true)) (.t 20)))⟩])
  (.cond (.t 21)
    (.seq (.region [⟨none, .s (.v 2 (.mov (.c (.bool false))))⟩])
    .ret)
    .skip))
  (.seq (.seq (.region [⟨none, .s (.v 3 (.mov (.c (.int .i64 1))))⟩])
  (.block 0 
    (.loop 
      (.seq (.seq (.region [⟨none, .s (.v 22 (.mov (.t 3)))⟩,
        ⟨none, .s (.v 23 (.mov (.t 0)))⟩,
        ⟨none, .s (.v 24 (.slen (.t 23)))⟩,
        ⟨none, .s (.v 25 (.bin .lss false (.t 22) (.t 24)))⟩])
      (.cond (.t 25)
        .skip
        (.exit 0)))
      (.seq (.block 1 
        (.seq (.region [⟨none, .s (.v 28 (.mov (.t 0)))⟩,
          ⟨none, .s (.v 29 (.mov (.t 3)))⟩,
          ⟨none, .s (.v 30 (.sidx (.t 28) (.t 29)))⟩,
          ⟨none, .s (.v 31 (.bin .geq false (.t 30) (.c (.int .u8 97))))⟩,
          ⟨none, .s (.v 32 (.mov (.t 31)))⟩,
          ⟨(some (32, true)), .s (.v 33 (.mov (.t 0)))⟩,
          ⟨(some (32, true)), .s (.v 34 (.mov (.t 3)))⟩,
          ⟨(some (32, true)), .s (.v 35 (.sidx (.t 33) (.t 34)))⟩,
          ⟨(some (32, true)), .s (.v 36 (.bin .leq false (.t 35) (.c (.int .u8 122))))⟩,
          ⟨none, .s (.v 37 (.pick (.t 32) (.t 36) (.c (.bool false))))⟩,
          ⟨none, .s (.v 38 (.mov (.t 37)))⟩,
          ⟨(some (38, false)), .s (.v 39 (.mov (.t 0)))⟩,
          ⟨(some (38, false)), .s (.v 40 (.mov (.t 3)))⟩,
          ⟨(some (38, false)), .s (.v 41 (.sidx (.t 39) (.t 40)))⟩,
          ⟨(some (38, false)), .s (.v 42 (.bin .geq false (.t 41) (.c (.int .u8 48))))⟩,
          ⟨(some (38, false)), .s (.v 43 (.mov (.t 42)))⟩,
          ⟨(some (43, true)), .s (.v 44 (.mov (.t 0)))⟩,
          ⟨(some (43, true)), .s (.v 45 (.mov (.t 3)))⟩,
          ⟨(some (43, true)), .s (.v 46 (.sidx (.t 44) (.t 45)))⟩,
          ⟨(some (43, true)), .s (.v 47 (.bin .leq false (.t 46) (.c (.int .u8 57))))⟩,
          ⟨(some (38, false)), .s (.v 48 (.pick (.t 43) (.t 47) (.c (.bool false))))⟩,
          ⟨none, .s (.v 49 (.pick (.t 38) (.c (.bool true)) (.t 48)))⟩,
          ⟨none, .s (.v 50 (.mov (.t 49)))⟩,
          ⟨(some (50, false)), .s (.v 51 (.mov (.t 0)))⟩,
          ⟨(some (50, false)), .s (.v 52 (.mov (.t 3)))⟩,
          ⟨(some (50, false)), .s (.v 53 (.sidx (.t 51) (.t 52)))⟩,
          ⟨(some (50, false)), .s (.v 54 (.bin .eql false (.t 53) (.c (.int .u8 45))))⟩,
          ⟨none, .s (.v 55 (.pick (.t 50) (.c (.bool true)) (.t 54)))⟩,
          ⟨none, .s (.v 56 (.notB (.t 55)))⟩])
        (.cond (.t 56)
          (.seq (.region [⟨none, .s (.v 2 (.mov (.c (.bool false))))⟩])
          .ret)
          .skip)))
      (.region [⟨none, .s (.v 26 (.mov (.t 3)))⟩,
        ⟨none, .s (.v 27 (.bin .add false (.t 26) (.c (.int .i64 1))))⟩,
        ⟨none, .s (.v 3 (.mov (.t 27)))⟩]))))))
  (.seq (.region [⟨none, .s (.v 2 (.mov (.c (.bool true))))⟩])
  .ret))))
def r_impl_IsName : List RV := [.tmp 2]

/-- impl.sizeWith -/
def c_impl_sizeWith : C :=
  (.seq (.region [⟨none, .s (.box 2 none (.t 0))⟩,
    ⟨none, .s (.v 4 (.mov (.c (.int .i64 0))))⟩])
  (.seq (.seq (.region [⟨none, .s (.v 6 (.faddr 0 false 1 (.t 2)))⟩,
    ⟨none, .s (.v 7 (.load false 1 (.t 6)))⟩])
  (.block 0 
    (.seq (.region [⟨none, .s (.v 9 (.bin .eql false (.t 7) (.c (.int .i64 1))))⟩,
      ⟨none, .s (.v 8 (.mov (.t 9)))⟩])
    (.cond (.t 8)
      (.seq (.region [⟨none, .s (.v 10 (.mov (.t 1)))⟩,
        ⟨none, .s (.v 11 (.faddr 1 false 1 (.t 2)))⟩,
        ⟨none, .s (.v 12 (.load false 1 (.t 11)))⟩,
        ⟨none, .call (some 13) (.t 10) [(.t 12)]⟩,
        ⟨none, .s (.v 14 (.min2 (.t 13) (.c (.int .i64 5001))))⟩,
        ⟨none, .s (.v 4 (.mov (.t 14)))⟩])
      .ret)
      (.seq (.region [⟨none, .s (.v 16 (.bin .eql false (.t 7) (.c (.int .i64 4))))⟩,
        ⟨none, .s (.v 15 (.mov (.t 16)))⟩])
      (.cond (.t 15)
        (.seq (.region [⟨none, .s (.v 17 (.faddr 3 false 1 (.t 2)))⟩,
          ⟨none, .s (.v 18 (.load false 1 (.t 17)))⟩,
          ⟨none, .s (.v 19 (.iaddr 4 (.t 18) (.c (.int .i64 0))))⟩,
          ⟨none, .s (.v 20 (.load true 4 (.t 19)))⟩,
          ⟨none, .s (.v 21 (.mov (.t 1)))⟩,
          ⟨none, .call (some 22) (.c (.func 147 [])) [(.t 20), (.t 21)]⟩,
          ⟨none, .s (.v 5 (.mov (.t 22)))⟩])
        (.seq (.seq (.region [⟨none, .s (.v 23 (.mov (.t 5)))⟩,
          ⟨none, .s (.v 24 (.bin .gtr false (.t 23) (.c (.int .i64 5000))))⟩])
        (.cond (.t 24)
          (.seq (.region [⟨none, .s (.v 25 (.mov (.t 5)))⟩,
            ⟨none, .s (.v 4 (.mov (.t 25)))⟩])
          .ret)
          .skip))
        (.seq (.region [⟨none, .s (.v 26 (.mov (.t 5)))⟩,
          ⟨none, .s (.v 27 (.bin .add false (.c (.int .i64 1)) (.t 26)))⟩,
          ⟨none, .s (.v 28 (.faddr 3 false 1 (.t 2)))⟩,
          ⟨none, .s (.v 29 (.load false 1 (.t 28)))⟩,
          ⟨none, .s (.v 30 (.iaddr 4 (.t 29) (.c (.int .i64 1))))⟩,
          ⟨none, .s (.v 31 (.load true 4 (.t 30)))⟩,
          ⟨none, .s (.v 32 (.mov (.t 1)))⟩,
          ⟨none, .call (some 33) (.c (.func 147 [])) [(.t 31), (.t 32)]⟩,
          ⟨none, .s (.v 34 (.bin .add false (.t 27) (.t 33)))⟩,
          ⟨none, .s (.v 35 (.min2 (.t 34) (.c (.int .i64 5001))))⟩,
          ⟨none, .s (.v 4 (.mov (.t 35)))⟩])
        .ret)))
        .skip))))))
  (.seq (.region [⟨none, .s (.v 4 (.mov (.c (.int .i64 1))))⟩])
  .ret)))
def r_impl_sizeWith : List RV := [.tmp 4]

/-- impl.replaced$1 -/
def c_impl_replaced_1 : C :=
  (.seq (.region [⟨none, .s (.v 3 (.mov (.c (.int .i64 0))))⟩])
  (.seq (.seq (.region [⟨none, .s (.v 7 (.load false 1 (.t 1)))⟩,
    ⟨none, .s (.v 8 (.mov (.t 0)))⟩,
    ⟨none, .call (some 9) (.t 7) [(.t 8)]⟩,
    ⟨none, .s (.v 6 (.mov (.t 9)))⟩,
    ⟨none, .s (.v 10 (.ext 0 (.t 6)))⟩,
    ⟨none, .s (.v 11 (.ext 1 (.t 6)))⟩,
    ⟨none, .s (.alloc 4 none (.agg [.int .i64 0, .int .i64 0, .str [], .slice 4 .nil []]))⟩,
    ⟨none, .s (.store 4 (.t 4) (.t 10))⟩,
    ⟨none, .s (.v 5 (.mov (.t 11)))⟩])
  (.seq (.region [⟨none, .s (.v 12 (.mov (.t 5)))⟩])
  (.cond (.t 12)
    (.seq (.region [⟨none, .s (.v 13 (.load true 4 (.t 4)))⟩,
      ⟨none, .call (some 14) (.c (.func 108 [])) [(.t 13), (.c (.int .i64 5000))]⟩,
      ⟨none, .s (.v 3 (.mov (.t 14)))⟩])
    .ret)
    .skip)))
  (.seq (.region [⟨none, .s (.v 3 (.mov (.c (.int .i64 1))))⟩])
  .ret)))
def r_impl_replaced_1 : List RV := [.tmp 3]

/-- impl.mapVars -/
def c_impl_mapVars : C :=
  (.seq (.region [⟨none, .s (.box 2 none (.t 0))⟩,
    ⟨none, .s (.alloc 4 none (.agg [.int .i64 0, .int .i64 0, .str [], .slice 4 .nil []]))⟩])
  (.seq (.seq (.region [⟨none, .s (.v 7 (.faddr 0 false 1 (.t 2)))⟩,
    ⟨none, .s (.v 8 (.load false 1 (.t 7)))⟩])
  (.block 0 
    (.seq (.region [⟨none, .s (.v 10 (.bin .eql false (.t 8) (.c (.int .i64 1))))⟩,
      ⟨none, .s (.v 9 (.mov (.t 10)))⟩])
    (.cond (.t 9)
      (.seq (.seq (.region [⟨none, .s (.v 12 (.mov (.t 1)))⟩,
        ⟨none, .s (.v 13 (.faddr 1 false 1 (.t 2)))⟩,
        ⟨none, .s (.v 14 (.load false 1 (.t 13)))⟩,
        ⟨none, .call (some 15) (.t 12) [(.t 14)]⟩,
        ⟨none, .s (.v 11 (.mov (.t 15)))⟩,
        ⟨none, .s (.v 16 (.ext 0 (.t 11)))⟩,
        ⟨none, .s (.v 17 (.ext 1 (.t 11)))⟩,
        ⟨none, .s (.alloc 5 none (.agg [.int .i64 0, .int .i64 0, .str [], .slice 4 .nil []]))⟩,
        ⟨none, .s (.store 4 (.t 5) (.t 16))⟩,
        ⟨none, .s (.v 6 (.mov (.t 17)))⟩])
      (.seq (.region [⟨none, .s (.v 18 (.mov (.t 6)))⟩])
      (.cond (.t 18)
        (.seq (.region [⟨none, .s (.v 19 (.load true 4 (.t 5)))⟩,
          ⟨none, .call (some 20) (.c (.func 66 [])) [(.t 19)]⟩,
          ⟨none, .s (.store 4 (.t 4) (.t 20))⟩])
        .ret)
        .skip)))
      (.seq (.region [⟨none, .s (.v 21 (.load true 4 (.t 2)))⟩,
        ⟨none, .s (.store 4 (.t 4) (.t 21))⟩])
      .ret))
      (.seq (.region [⟨none, .s (.v 23 (.bin .eql false (.t 8) (.c (.int .i64 4))))⟩,
        ⟨none, .s (.v 22 (.mov (.t 23)))⟩])
      (.cond (.t 22)
        (.seq (.drawn false 38 [⟨none, .s (.v 24 (.faddr 3 false 1 (.t 2)))⟩,
          ⟨none, .s (.v 25 (.load false 1 (.t 24)))⟩,
          ⟨none, .s (.v 26 (.iaddr 4 (.t 25) (.c (.int .i64 0))))⟩,
          ⟨none, .s (.v 27 (.load true 4 (.t 26)))⟩,
          ⟨none, .s (.v 28 (.mov (.t 1)))⟩,
          ⟨none, .call (some 29) (.c (.func 149 [])) [(.t 27), (.t 28)]⟩,
          ⟨none, .s (.v 30 (.faddr 3 false 1 (.t 2)))⟩,
          ⟨none, .s (.v 31 (.load false 1 (.t 30)))⟩,
          ⟨none, .s (.v 32 (.iaddr 4 (.t 31) (.c (.int .i64 1))))⟩,
          ⟨none, .s (.v 33 (.load true 4 (.t 32)))⟩,
          ⟨none, .s (.v 34 (.mov (.t 1)))⟩,
          ⟨none, .call (some 35) (.c (.func 149 [])) [(.t 33), (.t 34)]⟩,
          ⟨none, .call (some 36) (.c (.func 64 [])) [(.t 29), (.t 35)]⟩,
          ⟨none, .s (.store 4 (.t 4) (.t 36))⟩])
        .ret)
        .skip))))))
  (.seq (.region [⟨none, .s (.v 37 (.load true 4 (.t 2)))⟩,
    ⟨none, .s (.store 4 (.t 4) (.t 37))⟩])
  .ret)))
def r_impl_mapVars : List RV := [.cell 4 true 4]

/-- sort.Search -/
def c_sort_Search : C :=
  (.seq (.region [⟨none, .s (.v 4 (.mov (.c (.int .i64 0))))⟩])
  (.seq (.region [⟨none, .s (.v 8 (.mov (.t 0)))⟩,
    ⟨none, .s (.v 5 (.mov (.c (.int .i64 0))))⟩,
    ⟨none, .s (.v 6 (.mov (.t 8)))⟩])
  (.seq (.block 0 
    (.loop 
      (.seq (.seq (.region [⟨none, .s (.v 9 (.mov (.t 5)))⟩,
        ⟨none, .s (.v 10 (.mov (.t 6)))⟩,
        ⟨none, .s (.v 11 (.bin .lss false (.t 9) (.t 10)))⟩])
      (.cond (.t 11)
        .skip
        (.exit 0)))
      (.block 1 
        (.seq (.region [⟨none, .s (.v 12 (.mov (.t 5)))⟩,
          ⟨none, .s (.v 13 (.mov (.t 6)))⟩,
          ⟨none, .s (.v 14 (.bin .add false (.t 12) (.t 13)))⟩,
          ⟨none, .s (.v 15 (.conv .u64 (.t 14)))⟩,
          ⟨none, .s (.v 16 (.bin .shr false (.t 15) (.c (.int .u64 1))))⟩,
          ⟨none, .s (.v 17 (.conv .i64 (.t 16)))⟩,
          ⟨none, .s (.v 7 (.mov (.t 17)))⟩])
        (.seq (.region [⟨none, .s (.v 18 (.mov (.t 1)))⟩,
          ⟨none, .s (.v 19 (.mov (.t 7)))⟩,
          ⟨none, .call (some 20) (.t 18) [(.t 19)]⟩,
          ⟨none, .s (.v 21 (.notB (.t 20)))⟩])
        (.cond (.t 21)
          (.region [⟨none, .s (.v 22 (.mov (.t 7)))⟩,
            ⟨none, .s (.v 23 (.bin .add false (.t 22) (.c (.int .i64 1))))⟩,
            ⟨none, .s (.v 5 (.mov (.t 23)))⟩])
          (.region [⟨none, .s (.v 24 (.mov (.t 7)))⟩,
            ⟨none, .s (.v 6 (.mov (.t 24)))⟩]))))))))
  (.seq (.region [⟨none, .s (.v 25 (.mov (.t 5)))⟩,
    ⟨none, .s (.v 4 (.mov (.t 25)))⟩])
  .ret))))
def r_sort_Search : List RV := [.tmp 4]

/-- impl.find$1 -/
def c_impl_find_1 : C :=
  (.seq (.region [⟨none, .s (.v 4 (.mov (.c (.bool false))))⟩])
  (.seq (.drawn true 12 [⟨none, .s (.v 5 (.load false 1 (.t 1)))⟩,
    ⟨none, .s (.v 6 (.mov (.t 0)))⟩,
    ⟨none, .s (.v 7 (.iaddr 5 (.t 5) (.t 6)))⟩,
    ⟨none, .s (.v 8 (.faddr 0 false 1 (.t 7)))⟩,
    ⟨none, .s (.v 9 (.load false 1 (.t 8)))⟩,
    ⟨none, .s (.v 10 (.load false 1 (.t 2)))⟩,
    ⟨none, .s (.v 11 (.bin .geq false (.t 9) (.t 10)))⟩,
    ⟨none, .s (.v 4 (.mov (.t 11)))⟩])
  .ret))
def r_impl_find_1 : List RV := [.tmp 4]
def tys : List (Nat × TF) := [
  (3, ⟨1, 8, .int .i64, .int .i64 0⟩),
  (4, ⟨1, 1, .bool, .bool false⟩),
  (5, ⟨1, 1, .int .u8, .int .u8 0⟩),
  (9, ⟨1, 16, .str, .str []⟩),
  (22, ⟨1, 24, .slice 5, .slice 1 .nil []⟩),
  (23, ⟨1, 24, .slice 26, .slice 4 .nil []⟩),
  (26, ⟨4, 56, .struct [(0, 3), (1, 3), (2, 9), (3, 23)], .agg [.int .i64 0, .int .i64 0, .str [], .slice 4 .nil []]⟩),
  (30, ⟨5, 64, .struct [(0, 3), (1, 26)], .agg [.int .i64 0, .int .i64 0, .int .i64 0, .str [], .slice 4 .nil []]⟩),
  (31, ⟨1, 24, .slice 30, .slice 5 .nil []⟩),
  (49, ⟨1, 24, .slice 3, .slice 1 .nil []⟩),
  (100, ⟨1, 8, .map 3 26, .junk⟩),
  (108, ⟨1, 8, .map 3 4, .junk⟩),
  (161, ⟨1, 8, .other, .junk⟩),
  (181, ⟨3, 40, .struct [(0, 22), (1, 3), (2, 3)], .agg [.slice 1 .nil [], .int .i64 0, .int .i64 0]⟩),
  (182, ⟨1, 8, .int .u64, .int .u64 0⟩),
  (184, ⟨1, 24, .slice 9, .slice 1 .nil []⟩)]
theorem mixed : Tryz.prog.follows .mixedOrders = true := by kernel_rfl
theorem tysok : tysOk Tryz.prog tys = true := by kernel_rfl
theorem ok_laws_FnMatching : fnOk tys c_laws_FnMatching r_laws_FnMatching 1 Tryz.f4 = true := by kernel_rfl
theorem f_laws_FnMatching : Tryz.prog.funcs[(4 : Nat)]? = some Tryz.f4 := Tryz.func4
theorem ok_spec_MakeTerm : fnOk tys c_spec_MakeTerm r_spec_MakeTerm 4 Tryz.f8 = true := by kernel_rfl
theorem f_spec_MakeTerm : Tryz.prog.funcs[(8 : Nat)]? = some Tryz.f8 := Tryz.func8
theorem ok_spec_MakeValue : fnOk tys c_spec_MakeValue r_spec_MakeValue 2 Tryz.f9 = true := by kernel_rfl
theorem f_spec_MakeValue : Tryz.prog.funcs[(9 : Nat)]? = some Tryz.f9 := Tryz.func9
theorem ok_impl_IsInstance : fnOk tys c_impl_IsInstance r_impl_IsInstance 2 Tryz.f13 = true := by kernel_rfl
theorem f_impl_IsInstance : Tryz.prog.funcs[(13 : Nat)]? = some Tryz.f13 := Tryz.func13
theorem ok_laws_same : fnOk tys c_laws_same r_laws_same 2 Tryz.f15 = true := by kernel_rfl
theorem f_laws_same : Tryz.prog.funcs[(15 : Nat)]? = some Tryz.f15 := Tryz.func15
theorem ok_spec_MakeGround : fnOk tys c_spec_MakeGround r_spec_MakeGround 3 Tryz.f19 = true := by kernel_rfl
theorem f_spec_MakeGround : Tryz.prog.funcs[(19 : Nat)]? = some Tryz.f19 := Tryz.func19
theorem ok_impl_Instantiate : fnOk tys c_impl_Instantiate r_impl_Instantiate 2 Tryz.f20 = true := by kernel_rfl
theorem f_impl_Instantiate : Tryz.prog.funcs[(20 : Nat)]? = some Tryz.f20 := Tryz.func20
theorem ok_impl_MatchTerm : fnOk tys c_impl_MatchTerm r_impl_MatchTerm 2 Tryz.f21 = true := by kernel_rfl
theorem f_impl_MatchTerm : Tryz.prog.funcs[(21 : Nat)]? = some Tryz.f21 := Tryz.func21
theorem ok_impl_ValuesOk : fnOk tys c_impl_ValuesOk r_impl_ValuesOk 1 Tryz.f22 = true := by kernel_rfl
theorem f_impl_ValuesOk : Tryz.prog.funcs[(22 : Nat)]? = some Tryz.f22 := Tryz.func22
theorem ok_impl_OccursIn : fnOk tys c_impl_OccursIn r_impl_OccursIn 2 Tryz.f23 = true := by kernel_rfl
theorem f_impl_OccursIn : Tryz.prog.funcs[(23 : Nat)]? = some Tryz.f23 := Tryz.func23
theorem ok_spec_MakeAlike : fnOk tys c_spec_MakeAlike r_spec_MakeAlike 4 Tryz.f24 = true := by kernel_rfl
theorem f_spec_MakeAlike : Tryz.prog.funcs[(24 : Nat)]? = some Tryz.f24 := Tryz.func24
theorem ok_impl_TermVars : fnOk tys c_impl_TermVars r_impl_TermVars 1 Tryz.f25 = true := by kernel_rfl
theorem f_impl_TermVars : Tryz.prog.funcs[(25 : Nat)]? = some Tryz.f25 := Tryz.func25
theorem ok_spec_l43New : fnOk tys c_spec_l43New r_spec_l43New 2 Tryz.f50 = true := by kernel_rfl
theorem f_spec_l43New : Tryz.prog.funcs[(50 : Nat)]? = some Tryz.f50 := Tryz.func50
theorem ok_spec_l02Draw : fnOk tys c_spec_l02Draw r_spec_l02Draw 3 Tryz.f51 = true := by kernel_rfl
theorem f_spec_l02Draw : Tryz.prog.funcs[(51 : Nat)]? = some Tryz.f51 := Tryz.func51
theorem ok_spec_l02Copy : fnOk tys c_spec_l02Copy r_spec_l02Copy 1 Tryz.f52 = true := by kernel_rfl
theorem f_spec_l02Copy : Tryz.prog.funcs[(52 : Nat)]? = some Tryz.f52 := Tryz.func52
theorem ok_spec_l04Put : fnOk tys c_spec_l04Put r_spec_l04Put 2 Tryz.f53 = true := by kernel_rfl
theorem f_spec_l04Put : Tryz.prog.funcs[(53 : Nat)]? = some Tryz.f53 := Tryz.func53
theorem ok_impl_TermOk : fnOk tys c_impl_TermOk r_impl_TermOk 1 Tryz.f54 = true := by kernel_rfl
theorem f_impl_TermOk : Tryz.prog.funcs[(54 : Nat)]? = some Tryz.f54 := Tryz.func54
theorem ok_impl_put : fnOk tys c_impl_put r_impl_put 2 Tryz.f57 = true := by kernel_rfl
theorem f_impl_put : Tryz.prog.funcs[(57 : Nat)]? = some Tryz.f57 := Tryz.func57
theorem ok_impl_orderTerms : fnOk tys c_impl_orderTerms r_impl_orderTerms 2 Tryz.f59 = true := by kernel_rfl
theorem f_impl_orderTerms : Tryz.prog.funcs[(59 : Nat)]? = some Tryz.f59 := Tryz.func59
theorem ok_impl_matched : fnOk tys c_impl_matched r_impl_matched 3 Tryz.f61 = true := by kernel_rfl
theorem f_impl_matched : Tryz.prog.funcs[(61 : Nat)]? = some Tryz.f61 := Tryz.func61
theorem ok_impl_pair : fnOk tys c_impl_pair r_impl_pair 2 Tryz.f64 = true := by kernel_rfl
theorem f_impl_pair : Tryz.prog.funcs[(64 : Nat)]? = some Tryz.f64 := Tryz.func64
theorem ok_spec_l12Ground : fnOk tys c_spec_l12Ground r_spec_l12Ground 2 Tryz.f65 = true := by kernel_rfl
theorem f_spec_l12Ground : Tryz.prog.funcs[(65 : Nat)]? = some Tryz.f65 := Tryz.func65
theorem ok_impl_copyTerm : fnOk tys c_impl_copyTerm r_impl_copyTerm 1 Tryz.f66 = true := by kernel_rfl
theorem f_impl_copyTerm : Tryz.prog.funcs[(66 : Nat)]? = some Tryz.f66 := Tryz.func66
theorem ok_impl_sortBindings : fnOk tys c_impl_sortBindings r_impl_sortBindings 1 Tryz.f67 = true := by kernel_rfl
theorem f_impl_sortBindings : Tryz.prog.funcs[(67 : Nat)]? = some Tryz.f67 := Tryz.func67
theorem ok_impl_occurs : fnOk tys c_impl_occurs r_impl_occurs 2 Tryz.f68 = true := by kernel_rfl
theorem f_impl_occurs : Tryz.prog.funcs[(68 : Nat)]? = some Tryz.f68 := Tryz.func68
theorem ok_spec_l05Alike : fnOk tys c_spec_l05Alike r_spec_l05Alike 3 Tryz.f69 = true := by kernel_rfl
theorem f_spec_l05Alike : Tryz.prog.funcs[(69 : Nat)]? = some Tryz.f69 := Tryz.func69
theorem ok_impl_eachVar : fnOk tys c_impl_eachVar r_impl_eachVar 2 Tryz.f70 = true := by kernel_rfl
theorem f_impl_eachVar : Tryz.prog.funcs[(70 : Nat)]? = some Tryz.f70 := Tryz.func70
theorem ok_impl_TermVars_1 : fnOk tys c_impl_TermVars_1 r_impl_TermVars_1 2 Tryz.f71 = true := by kernel_rfl
theorem f_impl_TermVars_1 : Tryz.prog.funcs[(71 : Nat)]? = some Tryz.f71 := Tryz.func71
theorem ok_impl_sortedInts : fnOk tys c_impl_sortedInts r_impl_sortedInts 1 Tryz.f72 = true := by kernel_rfl
theorem f_impl_sortedInts : Tryz.prog.funcs[(72 : Nat)]? = some Tryz.f72 := Tryz.func72
theorem ok_spec_l01Below : fnOk tys c_spec_l01Below r_spec_l01Below 2 Tryz.f101 = true := by kernel_rfl
theorem f_spec_l01Below : Tryz.prog.funcs[(101 : Nat)]? = some Tryz.f101 := Tryz.func101
theorem ok_spec_l01New : fnOk tys c_spec_l01New r_spec_l01New 1 Tryz.f102 = true := by kernel_rfl
theorem f_spec_l01New : Tryz.prog.funcs[(102 : Nat)]? = some Tryz.f102 := Tryz.func102
theorem ok_spec_l01Byte : fnOk tys c_spec_l01Byte r_spec_l01Byte 1 Tryz.f103 = true := by kernel_rfl
theorem f_spec_l01Byte : Tryz.prog.funcs[(103 : Nat)]? = some Tryz.f103 := Tryz.func103
theorem ok_spec_l02Pair : fnOk tys c_spec_l02Pair r_spec_l02Pair 2 Tryz.f104 = true := by kernel_rfl
theorem f_spec_l02Pair : Tryz.prog.funcs[(104 : Nat)]? = some Tryz.f104 := Tryz.func104
theorem ok_spec_l02Var : fnOk tys c_spec_l02Var r_spec_l02Var 1 Tryz.f105 = true := by kernel_rfl
theorem f_spec_l02Var : Tryz.prog.funcs[(105 : Nat)]? = some Tryz.f105 := Tryz.func105
theorem ok_spec_l02Atom : fnOk tys c_spec_l02Atom r_spec_l02Atom 1 Tryz.f106 = true := by kernel_rfl
theorem f_spec_l02Atom : Tryz.prog.funcs[(106 : Nat)]? = some Tryz.f106 := Tryz.func106
theorem ok_spec_l04Get : fnOk tys c_spec_l04Get r_spec_l04Get 2 Tryz.f107 = true := by kernel_rfl
theorem f_spec_l04Get : Tryz.prog.funcs[(107 : Nat)]? = some Tryz.f107 := Tryz.func107
theorem ok_impl_nodesOf : fnOk tys c_impl_nodesOf r_impl_nodesOf 2 Tryz.f108 = true := by kernel_rfl
theorem f_impl_nodesOf : Tryz.prog.funcs[(108 : Nat)]? = some Tryz.f108 := Tryz.func108
theorem ok_impl_replaced : fnOk tys c_impl_replaced r_impl_replaced 2 Tryz.f109 = true := by kernel_rfl
theorem f_impl_replaced : Tryz.prog.funcs[(109 : Nat)]? = some Tryz.f109 := Tryz.func109
theorem ok_impl_put_1 : fnOk tys c_impl_put_1 r_impl_put_1 2 Tryz.f110 = true := by kernel_rfl
theorem f_impl_put_1 : Tryz.prog.funcs[(110 : Nat)]? = some Tryz.f110 := Tryz.func110
theorem ok_impl_find : fnOk tys c_impl_find r_impl_find 2 Tryz.f111 = true := by kernel_rfl
theorem f_impl_find : Tryz.prog.funcs[(111 : Nat)]? = some Tryz.f111 := Tryz.func111
theorem ok_impl_equalTerms : fnOk tys c_impl_equalTerms r_impl_equalTerms 2 Tryz.f114 = true := by kernel_rfl
theorem f_impl_equalTerms : Tryz.prog.funcs[(114 : Nat)]? = some Tryz.f114 := Tryz.func114
theorem ok_impl_orderInts : fnOk tys c_impl_orderInts r_impl_orderInts 2 Tryz.f115 = true := by kernel_rfl
theorem f_impl_orderInts : Tryz.prog.funcs[(115 : Nat)]? = some Tryz.f115 := Tryz.func115
theorem ok_impl_sortBindings_1 : fnOk tys c_impl_sortBindings_1 r_impl_sortBindings_1 3 Tryz.f118 = true := by kernel_rfl
theorem f_impl_sortBindings_1 : Tryz.prog.funcs[(118 : Nat)]? = some Tryz.f118 := Tryz.func118
theorem ok_spec_l01Once : fnOk tys c_spec_l01Once r_spec_l01Once 2 Tryz.f119 = true := by kernel_rfl
theorem f_spec_l01Once : Tryz.prog.funcs[(119 : Nat)]? = some Tryz.f119 := Tryz.func119
theorem ok_spec_l02Num : fnOk tys c_spec_l02Num r_spec_l02Num 1 Tryz.f144 = true := by kernel_rfl
theorem f_spec_l02Num : Tryz.prog.funcs[(144 : Nat)]? = some Tryz.f144 := Tryz.func144
theorem ok_spec_l02Sym : fnOk tys c_spec_l02Sym r_spec_l02Sym 1 Tryz.f145 = true := by kernel_rfl
theorem f_spec_l02Sym : Tryz.prog.funcs[(145 : Nat)]? = some Tryz.f145 := Tryz.func145
theorem ok_impl_IsName : fnOk tys c_impl_IsName r_impl_IsName 1 Tryz.f146 = true := by kernel_rfl
theorem f_impl_IsName : Tryz.prog.funcs[(146 : Nat)]? = some Tryz.f146 := Tryz.func146
theorem ok_impl_sizeWith : fnOk tys c_impl_sizeWith r_impl_sizeWith 2 Tryz.f147 = true := by kernel_rfl
theorem f_impl_sizeWith : Tryz.prog.funcs[(147 : Nat)]? = some Tryz.f147 := Tryz.func147
theorem ok_impl_replaced_1 : fnOk tys c_impl_replaced_1 r_impl_replaced_1 2 Tryz.f148 = true := by kernel_rfl
theorem f_impl_replaced_1 : Tryz.prog.funcs[(148 : Nat)]? = some Tryz.f148 := Tryz.func148
theorem ok_impl_mapVars : fnOk tys c_impl_mapVars r_impl_mapVars 2 Tryz.f149 = true := by kernel_rfl
theorem f_impl_mapVars : Tryz.prog.funcs[(149 : Nat)]? = some Tryz.f149 := Tryz.func149
theorem ok_sort_Search : fnOk tys c_sort_Search r_sort_Search 2 Tryz.f150 = true := by kernel_rfl
theorem f_sort_Search : Tryz.prog.funcs[(150 : Nat)]? = some Tryz.f150 := Tryz.func150
theorem ok_impl_find_1 : fnOk tys c_impl_find_1 r_impl_find_1 3 Tryz.f151 = true := by kernel_rfl
theorem f_impl_find_1 : Tryz.prog.funcs[(151 : Nat)]? = some Tryz.f151 := Tryz.func151
end Go.Proofs.YtchidkafcdmciaaGreat
/- Evaluation by rewriting: the equations by which code is run on an abstract state. -/
set_option linter.all false
namespace Go.Pv
open Go Go.RowKit

def sIc (st : St) (i : Ins) : Prop := match sI st i with | some (c, _) => c | none => False
def sIs (st : St) (i : Ins) : St := match sI st i with | some (_, s) => s | none => st
def Rest (P : Program) (r : List GI) (K : St → Prop) (st : St) : Prop := evG P r st K
def Then (P : Program) (ob : List Key) (c : C) (Q : Exit → St → Prop) (st : St) : Prop := evC P ob c Q st
/-- An instruction behind a test. -/
def evGd (P : Program) (v : PV) (s : Nat) (w : Bool) (i : RIns) (r : List GI) (st : St) (K : St → Prop) : Prop :=
  match v with
  | .bool b => (b = w → evG P (⟨none, i⟩ :: r) { st with t := put s (.bool w) st.t } K) ∧ (b = !w → evG P r { st with t := putO i.dst (.tuple []) (put s (.bool !w) st.t) } K)
  | .tuple [] => evG P r { st with t := putO i.dst (.tuple []) st.t } K
  | _ => False
def evCd (P : Program) (ob : List Key) (v : PV) (x : Opd) (t e : C) (Q : Exit → St → Prop) (st : St) : Prop :=
  match v with
  | .bool b => (b = true → evC P ob t Q (refineO st x true)) ∧ (b = false → evC P ob e Q (refineO st x false))
  | _ => False
def evF (P : Program) (v : PV) (d : Option Nat) (xs : List PV) (r : List GI) (st : St) (K : St → Prop) : Prop :=
  match v with
  | .func n caps => CallDo P n (stripL (xs ++ caps)) st d (Rest P r K)
  | _ => False

section
variable {P : Program} {ob : List Key} {st : St} {K : St → Prop} {r : List GI} {Q : Exit → St → Prop} {a b c t e : C}
theorem evG_nil : evG P [] st K = K st := rfl
theorem evG_s {i : Ins} : evG P (⟨none, .s i⟩ :: r) st K = (sIc st i ∧ evG P r (sIs st i) K) := by
  simp only [evG, ev1, sIc, sIs]
  cases sI st i with
  | none => simp
  | some x => rfl
theorem evG_call {d : Option Nat} {f : Opd} {xs : List Opd} : evG P (⟨none, .call d f xs⟩ :: r) st K = evF P (evalO st.t f) d (xs.map (evalO st.t)) r st K := by
  simp only [evG, ev1, evF]
  rfl
theorem evG_next {d : Nat} {x : Opd} : evG P (⟨none, .next d x⟩ :: r) st K = ev1n st d (evalO st.t x) (Rest P r K) := by
  simp only [evG, ev1]
  rfl
def Pub (P : Program) (ob : List Key) (c : C) (Q : Exit → St → Prop) : Option St → Prop
  | some st => evC P ob c Q st
  | none => False
theorem Pub_some : Pub P ob c Q (some st) = evC P ob c Q st := rfl
theorem evC_pub {s : Nat} : evC P ob (.pub s c) Q st = Pub P ob c Q (pubS st s) := by
  simp only [evC]
  cases pubS st s <;> rfl
theorem evC_fg {inn : Bool} {s : Nat} : evC P ob (.fg inn s c) Q st = evC P ob c Q { st with t := put s (fgV inn (get s st.t)) st.t } := rfl
theorem evC_fgs {inn : Bool} {s : Nat} {d : C} : evC P ob (.seq (.fg inn s c) d) Q st = evC P ob (.seq c d) Q { st with t := put s (fgV inn (get s st.t)) st.t } := rfl
theorem evC_pubB {s : Nat} : evC P ob (.pubB s c) Q st = Pub P ob c Q (pubBox st s) := by
  simp only [evC]
  cases pubBox st s <;> rfl
theorem evF_func {n : Nat} {caps : List PV} {d : Option Nat} {xs : List PV} : evF P (.func n caps) d xs r st K = CallDo P n (stripL (xs ++ caps)) st d (Rest P r K) := rfl
theorem evG_g {s : Nat} {w : Bool} {i : RIns} : evG P (⟨some (s, w), i⟩ :: r) st K = evGd P (get s st.t) s w i r st K := by
  simp only [evG, evGd]
  rfl
theorem put_same : ∀ (s : Nat) (l : List (Nat × PV)), get s l ≠ .junk → put s (get s l) l = l
  | s, [], h => by simp [get] at h
  | s, (i, p) :: r, h => by
    by_cases e : i = s
    · subst e; simp [get, put]
    · simp only [get, put, e, if_false] at h ⊢
      rw [put_same s r h]
theorem evGd_do {s : Nat} {b : Bool} {i : RIns} (hs : get s st.t = .bool b) : evGd P (.bool b) s b i r st K = evG P (⟨none, i⟩ :: r) st K := by
  have : put s (.bool b) st.t = st.t := by rw [← hs]; exact put_same s st.t (by rw [hs]; simp)
  simp only [evGd, this]
  cases b <;> simp
theorem evGd_tt {s : Nat} {i : RIns} : evGd P (.bool true) s true i r st K = evG P (⟨none, i⟩ :: r) { st with t := put s (.bool true) st.t } K := by simp [evGd]
theorem evGd_ff {s : Nat} {i : RIns} : evGd P (.bool false) s false i r st K = evG P (⟨none, i⟩ :: r) { st with t := put s (.bool false) st.t } K := by simp [evGd]
theorem evGd_tf {s : Nat} {i : RIns} : evGd P (.bool true) s false i r st K = evG P r { st with t := putO i.dst (.tuple []) (put s (.bool true) st.t) } K := by simp [evGd]
theorem evGd_ft {s : Nat} {i : RIns} : evGd P (.bool false) s true i r st K = evG P r { st with t := putO i.dst (.tuple []) (put s (.bool false) st.t) } K := by simp [evGd]
theorem evGd_no {s : Nat} {w : Bool} {i : RIns} : evGd P (.tuple []) s w i r st K = evG P r { st with t := putO i.dst (.tuple []) st.t } K := by simp [evGd]
theorem evGd_split {x : Bool} {s : Nat} {w : Bool} {i : RIns} (h1 : x = w → evG P (⟨none, i⟩ :: r) { st with t := put s (.bool w) st.t } K) (h2 : x = !w → evG P r { st with t := putO i.dst (.tuple []) (put s (.bool !w) st.t) } K) : evGd P (.bool x) s w i r st K := ⟨h1, h2⟩
theorem evC_assoc : evC P ob (.seq (.seq a b) c) Q st = evC P ob (.seq a (.seq b c)) Q st := by
  simp only [evC]
  congr 1
  funext e st'
  cases e <;> rfl
theorem evC_skip : evC P ob (.seq .skip c) Q st = evC P ob c Q st := rfl
theorem evC_ret : evC P ob (.seq .ret c) Q st = Q .ret st := rfl
theorem evC_exit {n : Nat} : evC P ob (.seq (.exit n) c) Q st = Q (.exit n) st := rfl
theorem evC_skip' : evC P ob .skip Q st = Q .normal st := rfl
theorem evC_ret' : evC P ob .ret Q st = Q .ret st := rfl
theorem evC_exit' {n : Nat} : evC P ob (.exit n) Q st = Q (.exit n) st := rfl
theorem evC_region {gs : List GI} : evC P ob (.seq (.region gs) c) Q st = evG P gs st (Then P ob c Q) := rfl
theorem evC_region' {gs : List GI} : evC P ob (.region gs) Q st = evG P gs st (Q .normal) := rfl
theorem evC_cond {x : Opd} : evC P ob (.seq (.cond x t e) c) Q st = evCd P ob (evalO st.t x) x (.seq t c) (.seq e c) Q st := by
  simp only [evC, evCd]
  rfl
theorem evC_cond' {x : Opd} : evC P ob (.cond x t e) Q st = evCd P ob (evalO st.t x) x t e Q st := by
  simp only [evC, evCd]
  rfl
theorem evCd_t {x : Opd} : evCd P ob (.bool true) x t e Q st = evC P ob t Q (refineO st x true) := by simp [evCd]
theorem evCd_f {x : Opd} : evCd P ob (.bool false) x t e Q st = evC P ob e Q (refineO st x false) := by simp [evCd]
theorem evCd_split {v : Bool} {x : Opd} (h1 : v = true → evC P ob t Q (refineO st x true)) (h2 : v = false → evC P ob e Q (refineO st x false)) : evCd P ob (.bool v) x t e Q st := ⟨h1, h2⟩
/-- A block, and what follows it. -/
def Bl (P : Program) (ob : List Key) (id : Nat) (c : C) (Q : Exit → St → Prop) (e : Exit) (st : St) : Prop :=
  match e with
  | .normal => evC P ob c Q st
  | .exit j => if j = id then evC P ob c Q st else Q (.exit j) st
  | e => Q e st
theorem evC_block {id : Nat} : evC P ob (.seq (.block id a) c) Q st = evC P ob a (Bl P ob id c Q) st := by
  simp only [evC]
  congr 1
  funext e st'
  cases e with
  | exit j => rfl
  | _ => rfl
theorem evC_block' {id : Nat} : evC P ob (.block id a) Q st = evC P ob a (Bl P ob id .skip Q) st := by
  simp only [evC]
  congr 1
  funext e st'
  cases e with
  | exit j =>
    simp only [Bl]
    by_cases hj : j = id <;> simp [hj, evC]
  | _ => rfl
theorem Bl_normal {id : Nat} : Bl P ob id c Q .normal st = Then P ob c Q st := rfl
theorem Bl_exit {id j : Nat} : Bl P ob id c Q (.exit j) st = if j = id then Then P ob c Q st else Q (.exit j) st := rfl
theorem Bl_ret {id : Nat} : Bl P ob id c Q .ret st = Q .ret st := rfl

/-- A loop: 'I k' is what is known at its head with at most k rounds to come. -/
def LoopQ (ob : List Key) (I : Nat → St → Prop) (k : Nat) (Q : Exit → St → Prop) (e : Exit) (st : St) : Prop :=
  match e with
  | .normal => ∃ k' s'', k' < k ∧ Weaker ob st s'' ∧ I k' s''
  | e => Q e st
theorem LoopQ_normal {I : Nat → St → Prop} {k : Nat} : LoopQ ob I k Q .normal st = ∃ k' s'', k' < k ∧ Weaker ob st s'' ∧ I k' s'' := rfl
theorem LoopQ_exit {I : Nat → St → Prop} {k n : Nat} : LoopQ ob I k Q (.exit n) st = Q (.exit n) st := rfl
theorem LoopQ_ret {I : Nat → St → Prop} {k : Nat} : LoopQ ob I k Q .ret st = Q .ret st := rfl
/-- The loop alone: its only way out is by an exit or a return. -/
theorem evC_loop (I : Nat → St → Prop) (m : Nat) (st0 : St) (hw : Weaker ob st st0) (h0 : I m st0) (h : ∀ k s, I k s → (∀ i, bndV (get i s.t)) → (∀ j cs, look j s.b = some cs → plainB cs = true → bndL cs) → evC P ob a (LoopQ ob I k Q) s) : evC P ob (.loop a) Q st := by
  simp only [evC]
  refine ⟨I, m, st0, hw, h0, fun k s h1 h2 h3 => ?_⟩
  have := h k s h1 h2 h3
  have hq : (LoopQ ob I k Q) = (fun e s' => match e with | .normal => ∃ k' s'', k' < k ∧ Weaker ob s' s'' ∧ I k' s'' | e => Q e s') := by
    funext e s'
    cases e <;> rfl
  rw [hq] at this
  exact this
end

/- Regions that draw their order. -/
def sDc (n0 : Nat) (st : St) (i : Ins) : Prop := match sIk (dKey n0 i) st.n (dKey n0 i :: st.o) st i with | some (c, _) => c | none => False
def sDs (n0 : Nat) (st : St) (i : Ins) : St := match sIk (dKey n0 i) st.n (dKey n0 i :: st.o) st i with | some (_, s) => s | none => st
def RestD (P : Program) (q : Bool) (nw : List Nat) (n0 : Nat) (r : List GI) (K : St → Prop) (st : St) : Prop := evD P q nw n0 r st K
def evDd (P : Program) (q : Bool) (nw : List Nat) (n0 : Nat) (v : PV) (s : Nat) (w : Bool) (i : RIns) (r : List GI) (st : St) (K : St → Prop) : Prop :=
  match v with
  | .bool b => (b = w → evD P q nw n0 (⟨none, i⟩ :: r) { st with t := put s (.bool w) st.t } K) ∧ (b = !w → evD P q nw n0 r { st with t := putO i.dst (.tuple []) (put s (.bool !w) st.t) } K)
  | .tuple [] => evD P q nw n0 r { st with t := putO i.dst (.tuple []) st.t } K
  | _ => False
def evDF (P : Program) (q : Bool) (nw : List Nat) (n0 : Nat) (v : PV) (d : Option Nat) (xs : List PV) (r : List GI) (st : St) (K : St → Prop) : Prop :=
  match v with
  | .func n caps => CallD P q nw n (stripL (xs ++ caps)) st d (RestD P q nw n0 r K)
  | _ => False
section
variable {P : Program} {ob : List Key} {st : St} {K : St → Prop} {r : List GI} {Q : Exit → St → Prop} {c : C} {q : Bool} {nw : List Nat} {n0 N : Nat}
theorem evD_nil : evD P q nw n0 [] st K = K st := rfl
theorem evD_s {i : Ins} : evD P q nw n0 (⟨none, .s i⟩ :: r) st K = (dCond q n0 st i ∧ sDc n0 st i ∧ evD P q nw n0 r (sDs n0 st i) K) := by
  simp only [evD, ev1d, sDc, sDs]
  cases sIk (dKey n0 i) st.n (dKey n0 i :: st.o) st i with
  | none => simp
  | some x => rfl
theorem evD_call {d : Option Nat} {f : Opd} {xs : List Opd} : evD P q nw n0 (⟨none, .call d f xs⟩ :: r) st K = evDF P q nw n0 (evalO st.t f) d (xs.map (evalO st.t)) r st K := by
  simp only [evD, ev1d, evDF]
  rfl
theorem evDF_func {n : Nat} {caps : List PV} {d : Option Nat} {xs : List PV} : evDF P q nw n0 (.func n caps) d xs r st K = CallD P q nw n (stripL (xs ++ caps)) st d (RestD P q nw n0 r K) := rfl
theorem evD_g {s : Nat} {w : Bool} {i : RIns} : evD P q nw n0 (⟨some (s, w), i⟩ :: r) st K = evDd P q nw n0 (get s st.t) s w i r st K := by
  simp only [evD, evDd]
  rfl
theorem evDd_tt {s : Nat} {i : RIns} : evDd P q nw n0 (.bool true) s true i r st K = evD P q nw n0 (⟨none, i⟩ :: r) { st with t := put s (.bool true) st.t } K := by simp [evDd]
theorem evDd_ff {s : Nat} {i : RIns} : evDd P q nw n0 (.bool false) s false i r st K = evD P q nw n0 (⟨none, i⟩ :: r) { st with t := put s (.bool false) st.t } K := by simp [evDd]
theorem evDd_tf {s : Nat} {i : RIns} : evDd P q nw n0 (.bool true) s false i r st K = evD P q nw n0 r { st with t := putO i.dst (.tuple []) (put s (.bool true) st.t) } K := by simp [evDd]
theorem evDd_ft {s : Nat} {i : RIns} : evDd P q nw n0 (.bool false) s true i r st K = evD P q nw n0 r { st with t := putO i.dst (.tuple []) (put s (.bool false) st.t) } K := by simp [evDd]
theorem evDd_no {s : Nat} {w : Bool} {i : RIns} : evDd P q nw n0 (.tuple []) s w i r st K = evD P q nw n0 r { st with t := putO i.dst (.tuple []) st.t } K := by simp [evDd]
theorem evDd_split {x : Bool} {s : Nat} {w : Bool} {i : RIns} (h1 : x = w → evD P q nw n0 (⟨none, i⟩ :: r) { st with t := put s (.bool w) st.t } K) (h2 : x = !w → evD P q nw n0 r { st with t := putO i.dst (.tuple []) (put s (.bool !w) st.t) } K) : evDd P q nw n0 (.bool x) s w i r st K := ⟨h1, h2⟩
theorem evC_drawn {gs : List GI} : evC P ob (.seq (.drawn q N gs) c) Q st = evD P q [] st.n gs st (DEnd (st.n + N) st.o (Then P ob c Q)) := rfl
theorem evC_drawn' {gs : List GI} : evC P ob (.drawn q N gs) Q st = evD P q [] st.n gs st (DEnd (st.n + N) st.o (Q .normal)) := rfl
theorem evC_drawnW {gs : List GI} : evC P ob (.seq (.drawnW nw N gs) c) Q st = ((∀ j ∈ nw, .obj j ∉ st.o) ∧ evD P false nw st.n gs st (DEnd (st.n + N) (nw.map Key.obj ++ st.o) (Then P ob c Q))) := rfl
theorem evC_drawnW' {gs : List GI} : evC P ob (.drawnW nw N gs) Q st = ((∀ j ∈ nw, .obj j ∉ st.o) ∧ evD P false nw st.n gs st (DEnd (st.n + N) (nw.map Key.obj ++ st.o) (Q .normal))) := rfl
/-- A call of a function of values in a drawn region. -/
theorem CallD.val {n : Nat} {args : List PV} {d : Option Nat} {r : PV} (hk : kinL (fun _ => False) args) (hf : FnV P n args r) (h : K { st with t := putO d r st.t }) : CallD P q nw n args st d K := by
  refine ⟨⟨[], []⟩, ⟨[], []⟩, r, none, fun k cs hk => by simp [look] at hk, fun k cs hk => by simp [look] at hk, objOnly_nil, objOnly_nil, ⟨fun k h => .inl h, fun k h => .inl h, fun k h => h, fun k h => h, fun k h => by cases h⟩, kinL_mono (fun _ h => h.elim) _ hk, hf, fun _ => ⟨rfl, rfl⟩, ?_⟩
  have : ({ after st ⟨[], []⟩ ⟨[], []⟩ d r with o := st.o } : St) = { st with t := putO d r st.t } := by
    simp [after, without_nil]
  rw [this]; exact h
end

section
variable {k : IntKind} {n : Int} {b : Bool} {s : List UInt8} {sz : Nat} {tag : Tag} {xs : List PV} {key : Key} {off f : Nat} {x : PV}
@[simp] theorem solid_int : solid (.int k n) = true := rfl
@[simp] theorem solid_bool : solid (.bool b) = true := rfl
@[simp] theorem solid_str : solid (.str s) = true := rfl
@[simp] theorem solid_slice : solid (.slice sz tag xs) = true := rfl
@[simp] theorem solid_agg : solid (.agg xs) = true := rfl
@[simp] theorem solid_ptr : solid (.ptr key off) = true := rfl
@[simp] theorem solid_eptr : solid (.eptr x) = true := rfl
@[simp] theorem solid_iface {t : Nat} : solid (.iface t x) = true := rfl
@[simp] theorem cells_iface {t : Nat} : cells (.iface t x) = [.iface t x] := rfl
@[simp] theorem solid_nilp : solid .nilp = true := rfl
@[simp] theorem solid_func : solid (.func f xs) = true := rfl
@[simp] theorem solid_gmap : solid (.gmap key) = true := rfl
@[simp] theorem solid_row {n : Nat} : solid (.row sz key n) = true := rfl
@[simp] theorem cells_row {n : Nat} : cells (.row sz key n) = [.row sz key n] := rfl
@[simp] theorem cells_int : cells (.int k n) = [.int k n] := rfl
@[simp] theorem cells_bool : cells (.bool b) = [.bool b] := rfl
@[simp] theorem cells_str : cells (.str s) = [.str s] := rfl
@[simp] theorem cells_slice : cells (.slice sz tag xs) = [.slice sz tag xs] := rfl
@[simp] theorem cells_agg : cells (.agg xs) = xs := rfl
@[simp] theorem cells_ptr : cells (.ptr key off) = [.ptr key off] := rfl
@[simp] theorem cells_eptr : cells (.eptr x) = [.eptr x] := rfl
@[simp] theorem cells_nilp : cells .nilp = [.nilp] := rfl
@[simp] theorem cells_func : cells (.func f xs) = [.func f xs] := rfl
@[simp] theorem cells_gmap : cells (.gmap key) = [.gmap key] := rfl
end
section
variable {b : List (Key × List PV)} {e : List (Key × Own)} {agg : Bool} {sz off : Nat} {k : Key} {p : PV} {cs xs vs : List PV} {ik : IntKind} {n i : Int} {m j : Nat} {tag : Tag} {s : List UInt8} {bo : Bool} {lo hi : Option PV}
@[simp] theorem loadV_rptr {sz' : Nat} {f : Nat} : loadV b e agg sz (.rptr sz' k m j f) = rowGet agg sz sz' m j f (look k e) := rfl
@[simp] theorem loadV_ptr : loadV b e agg sz (.ptr k off) = (match look k b with
    | some cs => if agg then some (plainB cs = true ∧ off + sz ≤ cs.length, .agg ((cs.drop off).take sz)) else (cs[off]?).map fun p => (plainB cs = true, p)
    | none => none) := rfl
@[simp] theorem loadV_eptr : loadV b e agg sz (.eptr p) = if agg then some (isAgg sz p, p) else some (solid p = true ∧ cells p = [p], p) := rfl
@[simp] theorem faddrV_ptr {o : Nat} : faddrV off agg sz (.ptr k o) = some (True, .ptr k (o + off)) := rfl
@[simp] theorem faddrV_rptr {sz' f : Nat} : faddrV off agg sz (.rptr sz' k m j f) = some (True, .rptr sz' k m j (f + off)) := rfl
@[simp] theorem faddrV_agg : faddrV off agg sz (.eptr (.agg cs)) = if agg then some (off + sz ≤ cs.length, .eptr (.agg ((cs.drop off).take sz))) else (cs[off]?).map fun p => (solid p = true ∧ cells p = [p], .eptr p) := rfl
@[simp] theorem fldV_agg : fldV off agg sz (.agg cs) = if agg then some (off + sz ≤ cs.length, .agg ((cs.drop off).take sz)) else (cs[off]?).map fun p => (True, p) := rfl
@[simp] theorem iaddrV_slice {sz' : Nat} : iaddrV sz (.slice sz' tag xs) (.int ik i) = if sz' = sz then some (0 ≤ i ∧ i < xs.length, .eptr (xs.getD i.toNat .junk)) else none := rfl
@[simp] theorem iaddrV_row {sz' : Nat} : iaddrV sz (.row sz' k m) (.int ik i) = if sz' = sz then some (0 ≤ i ∧ i < m, .rptr sz' k m i.toNat 0) else none := rfl
@[simp] theorem lenV_slice {sz' : Nat} : lenV (.slice sz' tag xs) = some (True, .int .i64 xs.length) := rfl
@[simp] theorem lenV_row {sz' : Nat} : lenV (.row sz' k m) = some (True, .int .i64 m) := rfl
@[simp] theorem slenV_str : slenV (.str s) = some (True, .int .i64 s.length) := rfl
@[simp] theorem extV_tuple : extV j (.tuple vs) = (vs[j]?).map fun p => (True, p) := rfl
@[simp] theorem nckV_ptr : nckV (.ptr k off) = some (True, .ptr k off) := rfl
@[simp] theorem nckV_eptr : nckV (.eptr p) = some (True, .eptr p) := rfl
@[simp] theorem nckV_func : nckV (.func j cs) = some (True, .func j cs) := rfl
@[simp] theorem notV_bool : notV (.bool bo) = some (True, .bool (!bo)) := rfl
@[simp] theorem sidxV_str : sidxV (.str s) (.int ik i) = some (0 ≤ i ∧ i < s.length, .int .u8 (s.getD i.toNat 0).toNat) := rfl
@[simp] theorem sslV_str : sslV (.str s) lo hi = (match optI 0 lo, optI s.length hi with
    | some l, some h => some (0 ≤ l ∧ l ≤ h ∧ h ≤ s.length, .str ((s.take h.toNat).drop l.toNat))
    | _, _ => none) := rfl
@[simp] theorem lslV_slice {sz' : Nat} : lslV sz (.slice sz' tag xs) lo hi = (if sz' = sz then match optI 0 lo, optI xs.length hi with
    | some l, some h => some (0 ≤ l ∧ l ≤ h ∧ h ≤ xs.length, .slice sz .no ((xs.take h.toNat).drop l.toNat))
    | _, _ => none else none) := rfl
theorem mgetV_map {f : Key → Option (List PV)} {ks : Bool} {z q : PV} {ok : Bool} : mgetV f ks z ok (.gmap k) q = (match f k with
    | some (.hdm _ _ :: kvs) => match mfind ks q kvs with
      | some (some v) => some (True, if ok then .tuple [v, .bool true] else v)
      | some none => some (True, if ok then .tuple [z, .bool false] else z)
      | none => none
    | _ => none) := rfl
theorem mlenV_map {f : Key → Option (List PV)} : mlenV f (.gmap k) = (match f k with
    | some (.hdm _ borns :: _) => some (True, .int .i64 borns.length)
    | _ => none) := rfl
theorem mentV_ptr {f : Key → Option (List PV)} : mentV f (.ptr k 0) = (match f k with
    | some [.hdi _ seen last, .gmap mk] => match f mk with
      | some (.hdm clock borns :: kvs) => match seen.getLast? with
        | some n => (mat n borns kvs).map fun p => (clock = last, p)
        | none => none
      | _ => none
    | _ => none) := rfl
@[simp] theorem rowGet_some {sz' f n' el sz'' : Nat} : rowGet agg sz sz' m j f (some ⟨n', el, sz'', some xs⟩) = (if n' = m ∧ sz'' = sz' then
      (match xs[j]? with
       | some p => if agg then some (solid p = true ∧ f + sz ≤ (cells p).length, .agg (((cells p).drop f).take sz)) else ((cells p)[f]?).map fun q => (solid p = true, q)
       | none => none) else none) := rfl
end
attribute [simp] evC_assoc evC_region evC_block evC_cond evC_skip evC_ret evC_exit evC_skip' evC_ret' evC_exit' evC_region' evC_block' evC_cond' Then Bl_normal Bl_exit Bl_ret LoopQ_exit LoopQ_ret evG_nil evG_s evG_call evF_func evG_g
  evGd_tt evGd_ff evGd_tf evGd_ft evGd_no evCd_t evCd_f sIc sIs sI vI slots evalO get put newKey keyFree nextN nextO upd        optI binV intV strV splice buildV pickV  negV    convV  minV
  look putO Ins.dst RIns.dst refineO Rest allSz stripL strip kin kinL
  evC_drawn evC_drawn' evC_drawnW evC_drawnW' evD_nil evD_s evD_call evDF_func evD_g evDd_tt evDd_ff evDd_tf evDd_ft evDd_no sDc sDs sIk dKey dCond freeAt VIns.loadO DEnd RestD isLocP plainB         appmV evG_next evC_pub evC_pubB evC_fg evC_fgs fgV Pub_some pubS pubRow pubBox   storeR rowPut  beqV maxV

end Go.Pv
/- Terms: as values and as trees; names; sizes. -/
set_option linter.all false
namespace Go.Pv
open Go

/-- A term as it may be handed in. -/
inductive Tm where
  | mk (kind n : Int) (name : List UInt8) (args : List Tm)
def Tm.kind : Tm → Int | .mk k _ _ _ => k
def Tm.num : Tm → Int | .mk _ n _ _ => n
def Tm.name : Tm → List UInt8 | .mk _ _ s _ => s
def Tm.args : Tm → List Tm | .mk _ _ _ a => a
mutual
def enc : Tm → PV
  | .mk k n s a => .agg [.int .i64 k, .int .i64 n, .str s, .slice 4 .no (encL a)]
def encL : List Tm → List PV
  | [] => []
  | x :: xs => enc x :: encL xs
end
theorem encL_map : ∀ l, encL l = l.map enc
  | [] => rfl
  | x :: xs => by simp [encL, encL_map xs]
theorem enc_eq (t : Tm) : enc t = .agg [.int .i64 t.kind, .int .i64 t.num, .str t.name, .slice 4 .no (t.args.map enc)] := by
  cases t; simp [enc, encL_map, Tm.kind, Tm.num, Tm.name, Tm.args]
mutual
theorem kin_enc (S : Key → Prop) : ∀ t : Tm, kin S (enc t)
  | .mk k n s a => by simp [enc, kin, kinL, kinL_enc S a]
theorem kinL_enc (S : Key → Prop) : ∀ l : List Tm, kinL S (encL l)
  | [] => by simp [encL, kinL]
  | x :: xs => by simp [encL, kinL, kin_enc S x, kinL_enc S xs]
end
mutual
theorem strip_enc : ∀ t : Tm, strip (enc t) = enc t
  | .mk k n s a => by simp [enc, strip, stripL, stripL_enc a]
theorem stripL_enc : ∀ l : List Tm, stripL (encL l) = encL l
  | [] => by simp [encL, stripL]
  | x :: xs => by simp [encL, stripL, strip_enc x, stripL_enc xs]
end
@[simp] theorem kin_enc' (S : Key → Prop) (t : Tm) : kin S (enc t) = True := eq_true (kin_enc S t)
@[simp] theorem kinL_mapEnc (S : Key → Prop) (l : List Tm) : kinL S (l.map enc) = True := by rw [← encL_map]; exact eq_true (kinL_enc S l)
theorem stripL_mapEnc (l : List Tm) : stripL (l.map enc) = l.map enc := by rw [← encL_map]; exact stripL_enc l
attribute [simp] strip_enc stripL_mapEnc
@[simp] theorem solid_enc (t : Tm) : solid (enc t) = true := by rw [enc_eq]; rfl
@[simp] theorem cells_enc (t : Tm) : cells (enc t) = [.int .i64 t.kind, .int .i64 t.num, .str t.name, .slice 4 .no (t.args.map enc)] := by rw [enc_eq]; rfl
@[simp] theorem agg_enc (t : Tm) : PV.agg [.int .i64 t.kind, .int .i64 t.num, .str t.name, .slice 4 .no (t.args.map enc)] = enc t := (enc_eq t).symm
@[simp] theorem fldV_enc (off : Nat) (ag : Bool) (sz : Nat) (t : Tm) : fldV off ag sz (enc t) = if ag then some (off + sz ≤ 4, .agg (([.int .i64 t.kind, .int .i64 t.num, .str t.name, .slice 4 .no (t.args.map enc)].drop off).take sz)) else (([.int .i64 t.kind, .int .i64 t.num, .str t.name, .slice 4 .no (t.args.map enc)] : List PV)[off]?).map fun p => (True, p) := by rw [enc_eq]; rfl
@[simp] theorem faddrV_enc (off : Nat) (ag : Bool) (sz : Nat) (t : Tm) : faddrV off ag sz (.eptr (enc t)) = if ag then some (off + sz ≤ 4, .eptr (.agg (([.int .i64 t.kind, .int .i64 t.num, .str t.name, .slice 4 .no (t.args.map enc)].drop off).take sz))) else (([.int .i64 t.kind, .int .i64 t.num, .str t.name, .slice 4 .no (t.args.map enc)] : List PV)[off]?).map fun p => (solid p = true ∧ cells p = [p], .eptr p) := by rw [enc_eq]; rfl
@[simp] theorem isAgg_enc (t : Tm) : Pv.isAgg 4 (enc t) := by rw [enc_eq]; exact ⟨_, rfl, rfl⟩

/-- A well-formed term (its atoms are not looked at). -/
inductive T where
  | nil
  | var (n : Int)
  | sym (s : List UInt8)
  | num (n : Int)
  | pair (a b : T)
  deriving DecidableEq, Inhabited
def T.tm : T → Tm
  | .nil => .mk 0 0 [] []
  | .var n => .mk 1 n [] []
  | .sym s => .mk 2 0 s []
  | .num n => .mk 3 n [] []
  | .pair a b => .mk 4 0 [] [a.tm, b.tm]
def T.e : T → PV
  | .nil => .agg [.int .i64 0, .int .i64 0, .str [], .slice 4 .no []]
  | .var n => .agg [.int .i64 1, .int .i64 n, .str [], .slice 4 .no []]
  | .sym s => .agg [.int .i64 2, .int .i64 0, .str s, .slice 4 .no []]
  | .num n => .agg [.int .i64 3, .int .i64 n, .str [], .slice 4 .no []]
  | .pair a b => .agg [.int .i64 4, .int .i64 0, .str [], .slice 4 .no [a.e, b.e]]
theorem enc_tm : ∀ t : T, enc t.tm = t.e
  | .nil | .var _ | .sym _ | .num _ => rfl
  | .pair a b => by simp [T.tm, enc, encL, T.e, enc_tm a, enc_tm b]
def T.kind : T → Int
  | .nil => 0 | .var _ => 1 | .sym _ => 2 | .num _ => 3 | .pair _ _ => 4
def T.int : T → Int
  | .var n => n | .num n => n | _ => 0
def T.name : T → List UInt8
  | .sym s => s | _ => []
def T.args : T → List T
  | .pair a b => [a, b] | _ => []
theorem T.e_eq (t : T) : t.e = .agg [.int .i64 t.kind, .int .i64 t.int, .str t.name, .slice 4 .no (t.args.map T.e)] := by cases t <;> rfl
@[simp] theorem agg_e (t : T) : PV.agg [.int .i64 t.kind, .int .i64 t.int, .str t.name, .slice 4 .no (t.args.map T.e)] = t.e := (T.e_eq t).symm
@[simp] theorem agg_nil : PV.agg [.int .i64 0, .int .i64 0, .str [], .slice 4 .no []] = T.nil.e := rfl
@[simp] theorem agg_var (n : Int) : PV.agg [.int .i64 1, .int .i64 n, .str [], .slice 4 .no []] = (T.var n).e := rfl
@[simp] theorem agg_sym (s : List UInt8) : PV.agg [.int .i64 2, .int .i64 0, .str s, .slice 4 .no []] = (T.sym s).e := rfl
@[simp] theorem agg_num (n : Int) : PV.agg [.int .i64 3, .int .i64 n, .str [], .slice 4 .no []] = (T.num n).e := rfl
@[simp] theorem agg_pair (a b : T) : PV.agg [.int .i64 4, .int .i64 0, .str [], .slice 4 .no [a.e, b.e]] = (T.pair a b).e := rfl
@[simp] theorem fldV_e (off : Nat) (ag : Bool) (sz : Nat) (t : T) : fldV off ag sz t.e = if ag then some (off + sz ≤ 4, .agg (([.int .i64 t.kind, .int .i64 t.int, .str t.name, .slice 4 .no (t.args.map T.e)].drop off).take sz)) else (([.int .i64 t.kind, .int .i64 t.int, .str t.name, .slice 4 .no (t.args.map T.e)] : List PV)[off]?).map fun p => (True, p) := by rw [T.e_eq]; rfl
@[simp] theorem faddrV_e (off : Nat) (ag : Bool) (sz : Nat) (t : T) : faddrV off ag sz (.eptr t.e) = if ag then some (off + sz ≤ 4, .eptr (.agg (([.int .i64 t.kind, .int .i64 t.int, .str t.name, .slice 4 .no (t.args.map T.e)].drop off).take sz))) else (([.int .i64 t.kind, .int .i64 t.int, .str t.name, .slice 4 .no (t.args.map T.e)] : List PV)[off]?).map fun p => (solid p = true ∧ cells p = [p], .eptr p) := by rw [T.e_eq]; rfl
@[simp] theorem kind_nil : (T.nil).kind = 0 := rfl
@[simp] theorem int_nil : (T.nil).int = 0 := rfl
@[simp] theorem name_nil : (T.nil).name = [] := rfl
@[simp] theorem args_nil : (T.nil).args = [] := rfl
@[simp] theorem kind_var (n : Int) : (T.var n).kind = 1 := rfl
@[simp] theorem int_var (n : Int) : (T.var n).int = n := rfl
@[simp] theorem name_var (n : Int) : (T.var n).name = [] := rfl
@[simp] theorem args_var (n : Int) : (T.var n).args = [] := rfl
@[simp] theorem kind_sym (s : List UInt8) : (T.sym s).kind = 2 := rfl
@[simp] theorem int_sym (s : List UInt8) : (T.sym s).int = 0 := rfl
@[simp] theorem name_sym (s : List UInt8) : (T.sym s).name = s := rfl
@[simp] theorem args_sym (s : List UInt8) : (T.sym s).args = [] := rfl
@[simp] theorem kind_num (n : Int) : (T.num n).kind = 3 := rfl
@[simp] theorem int_num (n : Int) : (T.num n).int = n := rfl
@[simp] theorem name_num (n : Int) : (T.num n).name = [] := rfl
@[simp] theorem args_num (n : Int) : (T.num n).args = [] := rfl
@[simp] theorem kind_pair (a b : T) : (T.pair a b).kind = 4 := rfl
@[simp] theorem int_pair (a b : T) : (T.pair a b).int = 0 := rfl
@[simp] theorem name_pair (a b : T) : (T.pair a b).name = [] := rfl
@[simp] theorem args_pair (a b : T) : (T.pair a b).args = [a, b] := rfl
@[simp] theorem kin_e (S : Key → Prop) (t : T) : kin S t.e = True := by rw [← enc_tm]; simp
@[simp] theorem strip_e (t : T) : strip t.e = t.e := by rw [← enc_tm]; simp
theorem kinL_mapE' (S : Key → Prop) : ∀ l : List T, kinL S (l.map T.e)
  | [] => by simp [kinL]
  | x :: xs => by simp [kinL, kinL_mapE' S xs]
@[simp] theorem kinL_mapE (S : Key → Prop) (l : List T) : kinL S (l.map T.e) = True := eq_true (kinL_mapE' S l)
@[simp] theorem stripL_mapE : ∀ l : List T, stripL (l.map T.e) = l.map T.e
  | [] => rfl
  | x :: xs => by simp [stripL, stripL_mapE xs]
@[simp] theorem solid_e (t : T) : solid t.e = true := by rw [T.e_eq]; rfl
@[simp] theorem cells_e (t : T) : cells t.e = [.int .i64 t.kind, .int .i64 t.int, .str t.name, .slice 4 .no (t.args.map T.e)] := by rw [T.e_eq]; rfl
@[simp] theorem isAgg_e (t : T) : Pv.isAgg 4 t.e := by rw [T.e_eq]; exact ⟨_, rfl, rfl⟩

def T.size : T → Nat
  | .pair a b => 1 + a.size + b.size
  | _ => 1
theorem T.size_pos (t : T) : 1 ≤ t.size := by cases t <;> simp [T.size] <;> omega

/-- Names. -/
def low (b : UInt8) : Bool := decide (97 ≤ b.toNat ∧ b.toNat ≤ 122)
def inName (b : UInt8) : Bool := low b || decide (48 ≤ b.toNat ∧ b.toNat ≤ 57) || b.toNat == 45
def isName (s : List UInt8) : Bool := decide (1 ≤ s.length ∧ s.length ≤ 12) && low (s.getD 0 0) && (s.drop 1).all inName
def T.ok : T → Bool
  | .nil => true
  | .var n => decide (0 ≤ n ∧ n ≤ 100000)
  | .sym s => isName s
  | .num n => decide (-1000000000 ≤ n ∧ n ≤ 1000000000)
  | .pair a b => a.ok && b.ok

/-- What nodesOf computes. -/
def leafOk (k n : Int) (s : List UInt8) : Bool :=
  if k = 0 then n == 0 && s == [] else if k = 1 then decide (0 ≤ n ∧ n ≤ 100000) && s == [] else if k = 2 then n == 0 && isName s else if k = 3 then decide (-1000000000 ≤ n ∧ n ≤ 1000000000) && s == [] else false
def nodes : Tm → Int → Int
  | .mk k n s [a, b], room => if room < 1 ∨ k ≠ 4 ∨ n ≠ 0 ∨ s ≠ [] then -1 else if nodes a (room - 1) < 0 then -1 else if nodes b (room - 1 - nodes a (room - 1)) < 0 then -1 else 1 + nodes a (room - 1) + nodes b (room - 1 - nodes a (room - 1))
  | .mk k n s args, room => if room < 1 ∨ k = 4 ∨ args ≠ [] ∨ leafOk k n s = false then -1 else 1

theorem nodes_eq (k n : Int) (s : List UInt8) (args : List Tm) (room : Int) : nodes (.mk k n s args) room = if room < 1 then -1 else if k ≠ 4 then (if args ≠ [] then -1 else if leafOk k n s then 1 else -1) else if n ≠ 0 ∨ s ≠ [] then -1 else match args with
    | [a, b] => if nodes a (room - 1) < 0 then -1 else if nodes b (room - 1 - nodes a (room - 1)) < 0 then -1 else 1 + nodes a (room - 1) + nodes b (room - 1 - nodes a (room - 1))
    | _ => -1 := by
  match args with
  | [] =>
    simp only [nodes]
    by_cases h1 : room < 1 <;> by_cases h2 : k = 4 <;> by_cases h3 : leafOk k n s = true <;> simp [h1, h2, h3]
  | [a] => simp [nodes]
  | [a, b] =>
    simp only [nodes]
    by_cases h1 : room < 1 <;> by_cases h2 : k = 4 <;> simp [h1, h2]
  | a :: b :: c :: r => simp [nodes]
theorem nodes_T : ∀ (t : T) (room : Int), nodes t.tm room = if t.ok = true ∧ (t.size : Int) ≤ room then (t.size : Int) else -1
  | .nil, room => by simp [T.tm, nodes, T.ok, T.size, leafOk]; split <;> rename_i h <;> simp_all <;> omega
  | .var n, room => by simp [T.tm, nodes, T.ok, T.size, leafOk]; split <;> split <;> simp_all <;> omega
  | .sym s, room => by
    simp [T.tm, nodes, T.ok, T.size, leafOk]
    by_cases h1 : room < 1 <;> by_cases h2 : isName s = true <;> simp [h1, h2] <;> omega
  | .num n, room => by simp [T.tm, nodes, T.ok, T.size, leafOk]; split <;> split <;> simp_all <;> omega
  | .pair a b, room => by
    have ha := a.size_pos; have hb := b.size_pos
    simp only [T.tm, nodes, nodes_T a, nodes_T b, T.ok, T.size, Bool.and_eq_true]
    by_cases h1 : room < 1
    · simp [h1]; omega
    · by_cases h2 : a.ok = true ∧ (a.size : Int) ≤ room - 1
      · rw [if_pos h2]
        by_cases h3 : b.ok = true ∧ (b.size : Int) ≤ room - 1 - a.size
        · rw [if_pos h3]; simp [h1, h2.1, h3.1]; split <;> omega
        · rw [if_neg h3]; simp [h1, h2.1]
          intro hb1; have := h3; simp [hb1] at this; omega
      · rw [if_neg h2]; simp [h1]
        intro ha1; have := h2; simp [ha1] at this; omega
theorem nodes_cases : ∀ (t : Tm) (room : Int), nodes t room = -1 ∨ 1 ≤ nodes t room
  | .mk k n s [a, b], room => by
    simp only [nodes]
    split
    · exact .inl rfl
    · split
      · exact .inl rfl
      · split
        · exact .inl rfl
        · right; omega
  | .mk k n s [], room => by simp only [nodes]; split <;> simp
  | .mk k n s [a], room => by simp [nodes]
  | .mk k n s (a :: b :: c :: r), room => by simp [nodes]
theorem nodes_pos : ∀ (t : Tm) (room : Int), 0 < nodes t room → ∃ x : T, x.tm = t
  | .mk k n s [a, b], room, h => by
    simp only [nodes] at h
    split at h
    · omega
    · rename_i h1
      simp only [not_or, Int.not_lt, ne_eq, Decidable.not_not] at h1
      obtain ⟨h1, rfl, rfl, rfl⟩ := h1
      split at h
      · omega
      · split at h
        · omega
        · obtain ⟨x, rfl⟩ := nodes_pos a (room - 1) (by rcases nodes_cases a (room - 1) with h | h <;> omega)
          obtain ⟨y, rfl⟩ := nodes_pos b (room - 1 - nodes x.tm (room - 1)) (by rcases nodes_cases b (room - 1 - nodes x.tm (room - 1)) with h | h <;> omega)
          exact ⟨.pair x y, rfl⟩
  | .mk k n s [], room, h => by
    simp only [nodes] at h
    split at h
    · omega
    · rename_i h1
      simp only [not_or, ne_eq, not_true_eq_false, not_false_eq_true, true_and, Bool.not_eq_false] at h1
      obtain ⟨_, _, h1⟩ := h1
      unfold leafOk at h1
      split at h1
      · rename_i e; subst e; simp at h1; obtain ⟨rfl, rfl⟩ := h1; exact ⟨.nil, rfl⟩
      · split at h1
        · rename_i e; subst e; simp at h1; obtain ⟨_, rfl⟩ := h1; exact ⟨.var n, rfl⟩
        · split at h1
          · rename_i e; subst e; simp at h1; obtain ⟨rfl, _⟩ := h1; exact ⟨.sym s, rfl⟩
          · split at h1
            · rename_i e; subst e; simp at h1; obtain ⟨_, rfl⟩ := h1; exact ⟨.num n, rfl⟩
            · cases h1
  | .mk k n s [a], room, h => by simp [nodes] at h
  | .mk k n s (a :: b :: c :: r), room, h => by simp [nodes] at h
theorem nodes_le : ∀ (t : Tm) (room : Int), nodes t room ≤ room ∨ nodes t room = -1
  | .mk k n s [a, b], room => by
    simp only [nodes]
    split
    · exact .inr rfl
    · split
      · exact .inr rfl
      · split
        · exact .inr rfl
        · rcases nodes_le b (room - 1 - nodes a (room - 1)) with h | h <;> omega
  | .mk k n s [], room => by simp only [nodes]; split <;> simp; rename_i h; omega
  | .mk k n s [a], room => by simp [nodes]
  | .mk k n s (a :: b :: c :: r), room => by simp [nodes]
mutual
def Tm.sz : Tm → Nat
  | .mk _ _ _ a => 1 + Tm.szL a
def Tm.szL : List Tm → Nat
  | [] => 0
  | x :: xs => x.sz + Tm.szL xs
end
theorem szL_mem : ∀ {l : List Tm} {x : Tm}, x ∈ l → x.sz ≤ Tm.szL l
  | y :: l, x, h => by
    rcases List.mem_cons.1 h with rfl | h
    · simp [Tm.szL]
    · have := szL_mem h; simp [Tm.szL]; omega
theorem sz_arg {t x : Tm} (h : x ∈ t.args) : x.sz < t.sz := by
  cases t; simp [Tm.args] at h; have := szL_mem h; simp [Tm.sz]; omega
/-- A term is valid. -/
def T.fit (t : T) : Bool := t.ok && decide (t.size ≤ 5000)
def Tm.fits (t : Tm) : Bool := decide (0 < nodes t 5000)
theorem Tm.fits_T (t : T) : t.tm.fits = t.fit := by
  unfold Tm.fits T.fit
  rw [nodes_T]
  have := t.size_pos
  by_cases h1 : t.ok = true <;> by_cases h2 : t.size ≤ 5000
  · rw [if_pos ⟨h1, by omega⟩]; simp [h1, h2]; omega
  · rw [if_neg (by omega)]; simp [h2]
  · rw [if_neg (by simp [h1])]; simp [h1]
  · rw [if_neg (by simp [h1])]; simp [h1]
theorem Tm.fits_ex {t : Tm} (h : t.fits = true) : ∃ x : T, x.tm = t ∧ x.fit = true := by
  obtain ⟨x, rfl⟩ := nodes_pos t 5000 (by simpa [Tm.fits] using h)
  exact ⟨x, rfl, by rw [← Tm.fits_T]; exact h⟩


/-- Bindings. -/
structure Bd where
  v : Int
  t : T
  deriving DecidableEq, Inhabited
def Bd.e (b : Bd) : PV := .agg [.int .i64 b.v, .int .i64 b.t.kind, .int .i64 b.t.int, .str b.t.name, .slice 4 .no (b.t.args.map T.e)]
@[simp] theorem Bd.eta (b : Bd) : Bd.mk b.v b.t = b := rfl
@[simp] theorem agg_bd (v : Int) (t : T) : PV.agg [.int .i64 v, .int .i64 t.kind, .int .i64 t.int, .str t.name, .slice 4 .no (t.args.map T.e)] = (Bd.mk v t).e := rfl
@[simp] theorem agg_bd_nil (v : Int) : PV.agg [.int .i64 v, .int .i64 0, .int .i64 0, .str [], .slice 4 .no []] = (Bd.mk v .nil).e := rfl
@[simp] theorem agg_bd_var (v n : Int) : PV.agg [.int .i64 v, .int .i64 1, .int .i64 n, .str [], .slice 4 .no []] = (Bd.mk v (.var n)).e := rfl
@[simp] theorem agg_bd_sym (v : Int) (s : List UInt8) : PV.agg [.int .i64 v, .int .i64 2, .int .i64 0, .str s, .slice 4 .no []] = (Bd.mk v (.sym s)).e := rfl
@[simp] theorem agg_bd_num (v n : Int) : PV.agg [.int .i64 v, .int .i64 3, .int .i64 n, .str [], .slice 4 .no []] = (Bd.mk v (.num n)).e := rfl
@[simp] theorem agg_bd_pair (v : Int) (a b : T) : PV.agg [.int .i64 v, .int .i64 4, .int .i64 0, .str [], .slice 4 .no [a.e, b.e]] = (Bd.mk v (.pair a b)).e := rfl
@[simp] theorem kin_bd (S : Key → Prop) (b : Bd) : kin S b.e = True := by simp [Bd.e, -agg_bd]
@[simp] theorem strip_bd (b : Bd) : strip b.e = b.e := by simp [Bd.e, -agg_bd]
theorem kinL_mapBd' (S : Key → Prop) : ∀ l : List Bd, kinL S (l.map Bd.e)
  | [] => by simp [kinL]
  | x :: xs => by simp [kinL, kinL_mapBd' S xs]
@[simp] theorem kinL_mapBd (S : Key → Prop) (l : List Bd) : kinL S (l.map Bd.e) = True := eq_true (kinL_mapBd' S l)
@[simp] theorem stripL_mapBd : ∀ l : List Bd, stripL (l.map Bd.e) = l.map Bd.e
  | [] => rfl
  | x :: xs => by simp [stripL, stripL_mapBd xs]
@[simp] theorem solid_bd (b : Bd) : solid b.e = true := rfl
@[simp] theorem cells_bd (b : Bd) : cells b.e = [.int .i64 b.v, .int .i64 b.t.kind, .int .i64 b.t.int, .str b.t.name, .slice 4 .no (b.t.args.map T.e)] := rfl
@[simp] theorem isAgg_bd (b : Bd) : Pv.isAgg 5 b.e := ⟨_, rfl, rfl⟩
@[simp] theorem fldV_bd (off : Nat) (ag : Bool) (sz : Nat) (b : Bd) : fldV off ag sz b.e = if ag then some (off + sz ≤ 5, .agg (([.int .i64 b.v, .int .i64 b.t.kind, .int .i64 b.t.int, .str b.t.name, .slice 4 .no (b.t.args.map T.e)].drop off).take sz)) else (([.int .i64 b.v, .int .i64 b.t.kind, .int .i64 b.t.int, .str b.t.name, .slice 4 .no (b.t.args.map T.e)] : List PV)[off]?).map fun p => (True, p) := rfl
@[simp] theorem faddrV_bd (off : Nat) (ag : Bool) (sz : Nat) (b : Bd) : faddrV off ag sz (.eptr b.e) = if ag then some (off + sz ≤ 5, .eptr (.agg (([.int .i64 b.v, .int .i64 b.t.kind, .int .i64 b.t.int, .str b.t.name, .slice 4 .no (b.t.args.map T.e)].drop off).take sz))) else (([.int .i64 b.v, .int .i64 b.t.kind, .int .i64 b.t.int, .str b.t.name, .slice 4 .no (b.t.args.map T.e)] : List PV)[off]?).map fun p => (solid p = true ∧ cells p = [p], .eptr p) := rfl

/-- What the small functions compute. -/
def T.occ (v : Int) : T → Bool
  | .var n => n == v
  | .pair a b => a.occ v || b.occ v
  | _ => false
def ordI (a b : Int) : Int := if a < b then -1 else if b < a then 1 else 0
def ordS (a b : List UInt8) : Int := if a = b then 0 else if Op.bytesLess a b then -1 else 1
def ordT : T → T → Int
  | .pair a b, .pair c d => if ordT a c = 0 then ordT b d else ordT a c
  | x, y => if x.kind ≠ y.kind then ordI x.kind y.kind else if x.int ≠ y.int then ordI x.int y.int else ordS x.name y.name


/-- Bindings as they may be handed in. -/
structure Bt where
  v : Int
  t : Tm
def Bt.e (b : Bt) : PV := .agg [.int .i64 b.v, .int .i64 b.t.kind, .int .i64 b.t.num, .str b.t.name, .slice 4 .no (b.t.args.map enc)]
def Bd.b (b : Bd) : Bt := ⟨b.v, b.t.tm⟩
theorem Bd.b_e (b : Bd) : b.b.e = b.e := by
  obtain ⟨v, t⟩ := b
  cases t <;> simp only [Bd.b, Bt.e, Bd.e, T.tm, Tm.kind, Tm.num, Tm.name, Tm.args, enc_tm, kind_nil, kind_var, kind_sym, kind_num, kind_pair, int_nil, int_var, int_sym, int_num, int_pair, name_nil, name_var, name_sym, name_num, name_pair, args_nil, args_var, args_sym, args_num, args_pair, List.map_cons, List.map_nil]
@[simp] theorem Bt.eta (b : Bt) : Bt.mk b.v b.t = b := rfl
@[simp] theorem agg_bt (v : Int) (t : Tm) : PV.agg [.int .i64 v, .int .i64 t.kind, .int .i64 t.num, .str t.name, .slice 4 .no (t.args.map enc)] = (Bt.mk v t).e := rfl
@[simp] theorem kin_bt (S : Key → Prop) (b : Bt) : kin S b.e = True := by simp [Bt.e, -agg_bt]
@[simp] theorem strip_bt (b : Bt) : strip b.e = b.e := by simp [Bt.e, -agg_bt]
theorem kinL_mapBt' (S : Key → Prop) : ∀ l : List Bt, kinL S (l.map Bt.e)
  | [] => by simp [kinL]
  | x :: xs => by simp [kinL, kinL_mapBt' S xs]
@[simp] theorem kinL_mapBt (S : Key → Prop) (l : List Bt) : kinL S (l.map Bt.e) = True := eq_true (kinL_mapBt' S l)
@[simp] theorem stripL_mapBt : ∀ l : List Bt, stripL (l.map Bt.e) = l.map Bt.e
  | [] => rfl
  | x :: xs => by simp [stripL, stripL_mapBt xs]
@[simp] theorem solid_bt (b : Bt) : solid b.e = true := rfl
@[simp] theorem cells_bt (b : Bt) : cells b.e = [.int .i64 b.v, .int .i64 b.t.kind, .int .i64 b.t.num, .str b.t.name, .slice 4 .no (b.t.args.map enc)] := rfl
@[simp] theorem isAgg_bt (b : Bt) : Pv.isAgg 5 b.e := ⟨_, rfl, rfl⟩
@[simp] theorem fldV_bt (off : Nat) (ag : Bool) (sz : Nat) (b : Bt) : fldV off ag sz b.e = if ag then some (off + sz ≤ 5, .agg (([.int .i64 b.v, .int .i64 b.t.kind, .int .i64 b.t.num, .str b.t.name, .slice 4 .no (b.t.args.map enc)].drop off).take sz)) else (([.int .i64 b.v, .int .i64 b.t.kind, .int .i64 b.t.num, .str b.t.name, .slice 4 .no (b.t.args.map enc)] : List PV)[off]?).map fun p => (True, p) := rfl
@[simp] theorem faddrV_bt (off : Nat) (ag : Bool) (sz : Nat) (b : Bt) : faddrV off ag sz (.eptr b.e) = if ag then some (off + sz ≤ 5, .eptr (.agg (([.int .i64 b.v, .int .i64 b.t.kind, .int .i64 b.t.num, .str b.t.name, .slice 4 .no (b.t.args.map enc)].drop off).take sz))) else (([.int .i64 b.v, .int .i64 b.t.kind, .int .i64 b.t.num, .str b.t.name, .slice 4 .no (b.t.args.map enc)] : List PV)[off]?).map fun p => (solid p = true ∧ cells p = [p], .eptr p) := rfl
def okAt (l : List Bt) (i : Nat) : Prop := ∀ b, l[i]? = some b → (0 ≤ b.v ∧ b.v ≤ 100000) ∧ (∀ c, 0 < i → l[i - 1]? = some c → c.v < b.v) ∧ b.t.fits = true
def ValsOk (l : List Bt) : Prop := l.length ≤ 400 ∧ ∀ i, i < l.length → okAt l i
theorem ordT_zero : ∀ a b : T, ordT a b = 0 ↔ a = b
  | .pair a b, .pair c d => by
    simp only [ordT, T.pair.injEq]
    split
    · rename_i h; rw [ordT_zero b d, ← ordT_zero a c]; simp [h]
    · rename_i h; simp [h, ← ordT_zero a c]
  | .nil, y => by cases y <;> simp [ordT, ordI, ordS]
  | .var n, y => by cases y <;> simp [ordT, ordI, ordS] <;> omega
  | .sym s, y => by
    cases y <;> simp [ordT, ordI, ordS]
    rename_i s'
    by_cases h : s = s' <;> simp [h]
    by_cases h2 : Op.bytesLess s s' = true <;> simp [h2]
  | .num n, y => by cases y <;> simp [ordT, ordI, ordS] <;> omega
  | .pair a b, .nil | .pair a b, .var _ | .pair a b, .sym _ | .pair a b, .num _ => by simp [ordT, ordI]

/-- Variables replaced. -/
def T.sub (f : Int → Option T) : T → T
  | .var n => match f n with | some x => x | none => .var n
  | .pair a b => .pair (a.sub f) (b.sub f)
  | t => t
def sizeW (f : Int → Int) : T → Int
  | .var n => if 5001 < f n then 5001 else f n
  | .pair a b => if 5000 < sizeW f a then sizeW f a else if 5001 < 1 + sizeW f a + sizeW f b then 5001 else 1 + sizeW f a + sizeW f b
  | _ => 1
theorem sizeW_le (f : Int → Int) (hf : ∀ v, -1 ≤ f v) : ∀ t, -1 ≤ sizeW f t ∧ sizeW f t ≤ 5001
  | .var n => by have := hf n; simp only [sizeW]; split <;> omega
  | .pair a b => by
    have := sizeW_le f hf a; have := sizeW_le f hf b
    simp only [sizeW]; split <;> (try split) <;> omega
  | .nil | .sym _ | .num _ => by simp [sizeW]
/-- A binding's term. -/
def bget (l : List Bd) (v : Int) : Option T := (l.find? fun b => b.v == v).map (·.t)

end Go.Pv
/- Contracts: names, sizes. -/
set_option linter.all false
namespace Go.Proofs.YtchidkafcdmciaaGreat
open Go Go.Pv

def invIsName (s : List UInt8) (k : Nat) (st : St) : Prop :=
  ∃ i : Nat, 1 ≤ i ∧ i ≤ s.length ∧ k = s.length - i ∧ ((s.drop 1).all inName = (s.drop i).all inName) ∧ st = ⟨[(0, .str s), (3, .int .i64 i)], [], [], 0, []⟩
set_option maxHeartbeats 1000000 in
theorem v_IsName (s : List UInt8) : FnV Tryz.prog 146 [.str s] (.bool (isName s)) := by
  refine FnV.mk mixed tysok f_impl_IsName ok_impl_IsName (by simp) (by simp [kin]) fun hb => ?_
  unfold c_impl_IsName
  simp
  (repeat' first | (with_reducible refine evCd_split (fun h => ?_) (fun h => ?_) <;> (try simp at h)) | (with_reducible refine evGd_split (fun h => ?_) (fun h => ?_) <;> (try simp at h)) | (with_reducible refine evDd_split (fun h => ?_) (fun h => ?_) <;> (try simp at h)) | with_reducible refine And.intro (by (first | omega | (unfold in64; omega))) ?_ | simp)
  case refine_1.refine_1.refine_1.refine_2 =>
    have hname : isName s = (s.drop 1).all inName := by simp [isName, low]; omega
    rw [hname]
    refine evC_loop (invIsName s) (s.length - 1) _ ⟨by simp, by simp [subB], by simp [subE], by simp⟩ ⟨1, by omega, by omega, rfl, rfl, rfl⟩ ?_
    rintro k st ⟨i, hi1, hi2, hk, hall, rfl⟩ hbt hbb
    rw [hall]
    simp
    refine evCd_split (fun hlt => ?_) (fun hge => ?_)
    · simp at hlt
      have hd : s.drop i = s[i]?.getD 0 :: s.drop (i + 1) := by rw [List.drop_eq_getElem_cons hlt]; simp [hlt]
      simp
      (repeat' first | (with_reducible refine evCd_split (fun h => ?_) (fun h => ?_) <;> (try simp at h)) | (with_reducible refine evGd_split (fun h => ?_) (fun h => ?_) <;> (try simp at h)) | (with_reducible refine evDd_split (fun h => ?_) (fun h => ?_) <;> (try simp at h)) | with_reducible refine And.intro (by (first | omega | (unfold in64; omega))) ?_ | simp)
      all_goals first
        | (simp [RetV, r_impl_IsName, resL, resV, tup, hd, inName, low]; omega)
        | (simp only [LoopQ_normal]; refine ⟨s.length - (i + 1), _, by omega, ⟨by simp, by simp [subB], by simp [subE], by simp⟩, i + 1, by omega, by omega, rfl, ?_, rfl⟩; rw [hall, hd]; simp [inName, low]; omega)
    · simp at hge
      have : s.drop i = [] := by simp; omega
      simp [RetV, r_impl_IsName, resL, resV, tup, this]
  all_goals simp [RetV, r_impl_IsName, resL, resV, tup, isName, low]
  all_goals omega

set_option maxHeartbeats 2000000 in
theorem v_nodesOf (m : Nat) : ∀ (t : Tm), t.sz ≤ m → ∀ (room : Int), 0 ≤ room ∧ room ≤ 10000 → FnV Tryz.prog 108 [enc t, .int .i64 room] (.int .i64 (nodes t room)) := by
  induction m with
  | zero => intro t ht; cases t; simp [Tm.sz] at ht
  | succ m ih =>
  rintro ⟨k, n, s, args⟩ ht room hroom
  refine FnV.mk mixed tysok f_impl_nodesOf ok_impl_nodesOf (by simp) (by simp [kin]) fun hbnd => ?_; unfold c_impl_nodesOf
  simp [Tm.kind, Tm.num, Tm.name, Tm.args]
  (repeat' first | (with_reducible refine evCd_split (fun h => ?_) (fun h => ?_) <;> (try simp at h)) | (with_reducible refine evGd_split (fun h => ?_) (fun h => ?_) <;> (try simp at h)) | (with_reducible refine evDd_split (fun h => ?_) (fun h => ?_) <;> (try simp at h)) | with_reducible refine And.intro (by (first | omega | (unfold in64; omega))) ?_ | simp)
  all_goals try refine CallDo.val (by simp) (v_IsName _) ?_
  all_goals try simp
  (repeat' first | (with_reducible refine evCd_split (fun h => ?_) (fun h => ?_) <;> (try simp at h)) | (with_reducible refine evGd_split (fun h => ?_) (fun h => ?_) <;> (try simp at h)) | (with_reducible refine evDd_split (fun h => ?_) (fun h => ?_) <;> (try simp at h)) | with_reducible refine And.intro (by (first | omega | (unfold in64; omega))) ?_ | simp)
  all_goals try simp [RetV, r_impl_nodesOf, resL, resV, tup]
  case succ.refine_2.refine_2.refine_1.refine_1.refine_2 =>
    rename_i h0 h1 h2 h3
    match args, h with
    | [a, b], _ =>
    simp [Tm.sz, Tm.szL] at ht
    subst h1 h2 h3
    simp
    (repeat' first | (with_reducible refine evCd_split (fun h => ?_) (fun h => ?_) <;> (try simp at h)) | (with_reducible refine evGd_split (fun h => ?_) (fun h => ?_) <;> (try simp at h)) | (with_reducible refine evDd_split (fun h => ?_) (fun h => ?_) <;> (try simp at h)) | with_reducible refine And.intro (by (first | omega | (unfold in64; omega))) ?_ | simp)
    refine CallDo.val (by simp) (ih a (by omega) (room - 1) (by omega)) ?_
    simp
    have ha := nodes_le a (room - 1)
    have ha' := nodes_cases a (room - 1)
    (repeat' first | (with_reducible refine evCd_split (fun h => ?_) (fun h => ?_) <;> (try simp at h)) | (with_reducible refine evGd_split (fun h => ?_) (fun h => ?_) <;> (try simp at h)) | (with_reducible refine evDd_split (fun h => ?_) (fun h => ?_) <;> (try simp at h)) | with_reducible refine And.intro (by (first | omega | (unfold in64; omega))) ?_ | simp)
    · simp [RetV, r_impl_nodesOf, resL, resV, tup]
      rw [nodes_eq]; simp; omega
    · refine CallDo.val (by simp) (ih b (by omega) (room - 1 - nodes a (room - 1)) (by omega)) ?_
      simp
      have hb := nodes_le b (room - 1 - nodes a (room - 1))
      have hb' := nodes_cases b (room - 1 - nodes a (room - 1))
      (repeat' first | (with_reducible refine evCd_split (fun h => ?_) (fun h => ?_) <;> (try simp at h)) | (with_reducible refine evGd_split (fun h => ?_) (fun h => ?_) <;> (try simp at h)) | (with_reducible refine evDd_split (fun h => ?_) (fun h => ?_) <;> (try simp at h)) | with_reducible refine And.intro (by (first | omega | (unfold in64; omega))) ?_ | simp)
      all_goals simp [RetV, r_impl_nodesOf, resL, resV, tup]
      all_goals rw [nodes_eq]; simp; omega
  all_goals rw [nodes_eq]
  all_goals simp_all [leafOk]
  all_goals first | omega | (split <;> simp at h ⊢)

theorem v_TermOk (t : Tm) : FnV Tryz.prog 54 [enc t] (.bool t.fits) := by
  refine FnV.mk mixed tysok f_impl_TermOk ok_impl_TermOk (by simp) (by simp [kin]) fun hbnd => ?_; unfold c_impl_TermOk
  simp
  refine CallDo.val (by simp) (v_nodesOf t.sz t (Nat.le_refl _) 5000 (by omega)) ?_
  simp
  simp [RetV, r_impl_TermOk, resL, resV, tup]
  simp [Tm.fits]
end Go.Proofs.YtchidkafcdmciaaGreat
/- Contracts: small functions on terms. -/
set_option linter.all false
namespace Go.Proofs.YtchidkafcdmciaaGreat
open Go Go.Pv

theorem v_TermOkT (t : T) : FnV Tryz.prog 54 [t.e] (.bool t.fit) := by
  have := v_TermOk t.tm
  rwa [enc_tm, Tm.fits_T] at this
theorem v_pair (a b : T) : FnV Tryz.prog 64 [a.e, b.e] (T.pair a b).e := by
  refine FnV.mk mixed tysok f_impl_pair ok_impl_pair (by simp) (by simp [kin]) fun hbnd => ?_; unfold c_impl_pair
  simp
  (repeat' first | (with_reducible refine evCd_split (fun h => ?_) (fun h => ?_) <;> (try simp at h)) | (with_reducible refine evGd_split (fun h => ?_) (fun h => ?_) <;> (try simp at h)) | (with_reducible refine evDd_split (fun h => ?_) (fun h => ?_) <;> (try simp at h)) | with_reducible refine And.intro (by (first | omega | (unfold in64; omega))) ?_ | simp)
  all_goals try simp [RetV, r_impl_pair, resL, resV, tup]
theorem v_l02Pair (a b : T) : FnV Tryz.prog 104 [a.e, b.e] (T.pair a b).e := by
  refine FnV.mk mixed tysok f_spec_l02Pair ok_spec_l02Pair (by simp) (by simp [kin]) fun hbnd => ?_; unfold c_spec_l02Pair
  simp
  (repeat' first | (with_reducible refine evCd_split (fun h => ?_) (fun h => ?_) <;> (try simp at h)) | (with_reducible refine evGd_split (fun h => ?_) (fun h => ?_) <;> (try simp at h)) | (with_reducible refine evDd_split (fun h => ?_) (fun h => ?_) <;> (try simp at h)) | with_reducible refine And.intro (by (first | omega | (unfold in64; omega))) ?_ | simp)
  all_goals try simp [RetV, r_spec_l02Pair, resL, resV, tup]
theorem v_copyTerm (t : T) : FnV Tryz.prog 66 [t.e] t.e := by
  induction t with
  | pair a b iha ihb =>
    refine FnV.mk mixed tysok f_impl_copyTerm ok_impl_copyTerm (by simp) (by simp [kin]) fun hbnd => ?_; unfold c_impl_copyTerm
    simp
    (repeat' first | (with_reducible refine evCd_split (fun h => ?_) (fun h => ?_) <;> (try simp at h)) | (with_reducible refine evGd_split (fun h => ?_) (fun h => ?_) <;> (try simp at h)) | (with_reducible refine evDd_split (fun h => ?_) (fun h => ?_) <;> (try simp at h)) | with_reducible refine And.intro (by (first | omega | (unfold in64; omega))) ?_ | with_reducible refine CallDo.val (by simp) (iha) ?_ | with_reducible refine CallD.val (by simp) (iha) ?_ | with_reducible refine CallDo.val (by simp) (ihb) ?_ | with_reducible refine CallD.val (by simp) (ihb) ?_ | simp)
    all_goals simp [RetV, r_impl_copyTerm, resL, resV, tup]
  | _ =>
    refine FnV.mk mixed tysok f_impl_copyTerm ok_impl_copyTerm (by simp) (by simp [kin]) fun hbnd => ?_; unfold c_impl_copyTerm
    simp
    (repeat' first | (with_reducible refine evCd_split (fun h => ?_) (fun h => ?_) <;> (try simp at h)) | (with_reducible refine evGd_split (fun h => ?_) (fun h => ?_) <;> (try simp at h)) | (with_reducible refine evDd_split (fun h => ?_) (fun h => ?_) <;> (try simp at h)) | with_reducible refine And.intro (by (first | omega | (unfold in64; omega))) ?_ | simp)
    all_goals simp [RetV, r_impl_copyTerm, resL, resV, tup]
theorem v_occurs (v : Int) (t : T) : FnV Tryz.prog 68 [.int .i64 v, t.e] (.bool (t.occ v)) := by
  induction t with
  | pair a b iha ihb =>
    refine FnV.mk mixed tysok f_impl_occurs ok_impl_occurs (by simp) (by simp [kin]) fun hbnd => ?_; unfold c_impl_occurs
    simp
    (repeat' first | (with_reducible refine evCd_split (fun h => ?_) (fun h => ?_) <;> (try simp at h)) | (with_reducible refine evGd_split (fun h => ?_) (fun h => ?_) <;> (try simp at h)) | (with_reducible refine evDd_split (fun h => ?_) (fun h => ?_) <;> (try simp at h)) | with_reducible refine And.intro (by (first | omega | (unfold in64; omega))) ?_ | with_reducible refine CallDo.val (by simp) (iha) ?_ | with_reducible refine CallD.val (by simp) (iha) ?_ | with_reducible refine CallDo.val (by simp) (ihb) ?_ | with_reducible refine CallD.val (by simp) (ihb) ?_ | simp)
    all_goals simp [RetV, r_impl_occurs, resL, resV, tup]
    all_goals simp_all [T.occ]
  | _ =>
    refine FnV.mk mixed tysok f_impl_occurs ok_impl_occurs (by simp) (by simp [kin]) fun hbnd => ?_; unfold c_impl_occurs
    simp
    (repeat' first | (with_reducible refine evCd_split (fun h => ?_) (fun h => ?_) <;> (try simp at h)) | (with_reducible refine evGd_split (fun h => ?_) (fun h => ?_) <;> (try simp at h)) | (with_reducible refine evDd_split (fun h => ?_) (fun h => ?_) <;> (try simp at h)) | with_reducible refine And.intro (by (first | omega | (unfold in64; omega))) ?_ | simp)
    all_goals simp [RetV, r_impl_occurs, resL, resV, tup]
    all_goals simp [T.occ]
theorem v_orderInts (a b : Int) : FnV Tryz.prog 115 [.int .i64 a, .int .i64 b] (.int .i64 (ordI a b)) := by
  refine FnV.mk mixed tysok f_impl_orderInts ok_impl_orderInts (by simp) (by simp [kin]) fun hbnd => ?_; unfold c_impl_orderInts
  simp
  (repeat' first | (with_reducible refine evCd_split (fun h => ?_) (fun h => ?_) <;> (try simp at h)) | (with_reducible refine evGd_split (fun h => ?_) (fun h => ?_) <;> (try simp at h)) | (with_reducible refine evDd_split (fun h => ?_) (fun h => ?_) <;> (try simp at h)) | with_reducible refine And.intro (by (first | omega | (unfold in64; omega))) ?_ | simp)
  all_goals simp [RetV, r_impl_orderInts, resL, resV, tup]
  all_goals simp [ordI]
  all_goals omega
theorem v_orderTerms (a : T) : ∀ b : T, FnV Tryz.prog 59 [a.e, b.e] (.int .i64 (ordT a b)) := by
  induction a with
  | pair a1 a2 ih1 ih2 =>
    intro b
    cases b with
    | pair b1 b2 =>
      refine FnV.mk mixed tysok f_impl_orderTerms ok_impl_orderTerms (by simp) (by simp [kin]) fun hbnd => ?_; unfold c_impl_orderTerms
      simp
      (repeat' first | (with_reducible refine evCd_split (fun h => ?_) (fun h => ?_) <;> (try simp at h)) | (with_reducible refine evGd_split (fun h => ?_) (fun h => ?_) <;> (try simp at h)) | (with_reducible refine evDd_split (fun h => ?_) (fun h => ?_) <;> (try simp at h)) | with_reducible refine And.intro (by (first | omega | (unfold in64; omega))) ?_ | with_reducible refine CallDo.val (by simp) (ih1 _) ?_ | with_reducible refine CallD.val (by simp) (ih1 _) ?_ | with_reducible refine CallDo.val (by simp) (ih2 _) ?_ | with_reducible refine CallD.val (by simp) (ih2 _) ?_ | with_reducible refine CallDo.val (by simp) (v_orderInts _ _) ?_ | with_reducible refine CallD.val (by simp) (v_orderInts _ _) ?_ | simp)
      all_goals simp [RetV, r_impl_orderTerms, resL, resV, tup]
      all_goals simp_all [ordT]
    | _ =>
      refine FnV.mk mixed tysok f_impl_orderTerms ok_impl_orderTerms (by simp) (by simp [kin]) fun hbnd => ?_; unfold c_impl_orderTerms
      simp
      (repeat' first | (with_reducible refine evCd_split (fun h => ?_) (fun h => ?_) <;> (try simp at h)) | (with_reducible refine evGd_split (fun h => ?_) (fun h => ?_) <;> (try simp at h)) | (with_reducible refine evDd_split (fun h => ?_) (fun h => ?_) <;> (try simp at h)) | with_reducible refine And.intro (by (first | omega | (unfold in64; omega))) ?_ | with_reducible refine CallDo.val (by simp) (v_orderInts _ _) ?_ | with_reducible refine CallD.val (by simp) (v_orderInts _ _) ?_ | simp)
      all_goals simp [RetV, r_impl_orderTerms, resL, resV, tup]
      all_goals simp_all [ordT]
  | _ =>
    intro b
    cases b <;>
    (refine FnV.mk mixed tysok f_impl_orderTerms ok_impl_orderTerms (by simp) (by simp [kin]) fun hbnd => ?_; unfold c_impl_orderTerms
     simp
     (repeat' first | (with_reducible refine evCd_split (fun h => ?_) (fun h => ?_) <;> (try simp at h)) | (with_reducible refine evGd_split (fun h => ?_) (fun h => ?_) <;> (try simp at h)) | (with_reducible refine evDd_split (fun h => ?_) (fun h => ?_) <;> (try simp at h)) | with_reducible refine And.intro (by (first | omega | (unfold in64; omega))) ?_ | with_reducible refine CallDo.val (by simp) (v_orderInts _ _) ?_ | with_reducible refine CallD.val (by simp) (v_orderInts _ _) ?_ | simp)
     all_goals simp [RetV, r_impl_orderTerms, resL, resV, tup]
     all_goals simp_all [ordT, ordS])
theorem v_equalTerms (a b : T) : FnV Tryz.prog 114 [a.e, b.e] (.bool (decide (a = b))) := by
  refine FnV.mk mixed tysok f_impl_equalTerms ok_impl_equalTerms (by simp) (by simp [kin]) fun hbnd => ?_; unfold c_impl_equalTerms
  simp
  (repeat' first | (with_reducible refine evCd_split (fun h => ?_) (fun h => ?_) <;> (try simp at h)) | (with_reducible refine evGd_split (fun h => ?_) (fun h => ?_) <;> (try simp at h)) | (with_reducible refine evDd_split (fun h => ?_) (fun h => ?_) <;> (try simp at h)) | with_reducible refine And.intro (by (first | omega | (unfold in64; omega))) ?_ | with_reducible refine CallDo.val (by simp) (v_orderTerms _ _) ?_ | with_reducible refine CallD.val (by simp) (v_orderTerms _ _) ?_ | simp)
  all_goals simp [RetV, r_impl_equalTerms, resL, resV, tup]
  have := ordT_zero a b
  by_cases h : ordT a b = 0 <;> simp_all
theorem v_OccursIn (v : Int) (t : T) : FnV Tryz.prog 23 [.int .i64 v, t.e] (.bool (t.fit && t.occ v)) := by
  refine FnV.mk mixed tysok f_impl_OccursIn ok_impl_OccursIn (by simp) (by simp [kin]) fun hbnd => ?_; unfold c_impl_OccursIn
  simp
  (repeat' first | (with_reducible refine evCd_split (fun h => ?_) (fun h => ?_) <;> (try simp at h)) | (with_reducible refine evGd_split (fun h => ?_) (fun h => ?_) <;> (try simp at h)) | (with_reducible refine evDd_split (fun h => ?_) (fun h => ?_) <;> (try simp at h)) | with_reducible refine And.intro (by (first | omega | (unfold in64; omega))) ?_ | with_reducible refine CallDo.val (by simp) (v_TermOkT _) ?_ | with_reducible refine CallD.val (by simp) (v_TermOkT _) ?_ | with_reducible refine CallDo.val (by simp) (v_occurs _ _) ?_ | with_reducible refine CallD.val (by simp) (v_occurs _ _) ?_ | simp)
  all_goals simp [RetV, r_impl_OccursIn, resL, resV, tup]
  all_goals simp_all
open Classical in
def invValuesOk (l : List Bt) (k : Nat) (st : St) : Prop :=
  ∃ i : Nat, i ≤ l.length ∧ k = l.length - i ∧ (∀ j, j < i → okAt l j) ∧ st = ⟨[(0, .slice 5 .no (l.map Bt.e)), (8, .slice 5 .no (l.map Bt.e)), (9, .int .i64 l.length), (10, .int .i64 i)], [], [], 0, []⟩
open Classical in
set_option maxHeartbeats 1000000 in
theorem v_ValuesOk (l : List Bt) : FnV Tryz.prog 22 [.slice 5 .no (l.map Bt.e)] (.bool (decide (ValsOk l))) := by
  refine FnV.mk mixed tysok f_impl_ValuesOk ok_impl_ValuesOk (by simp) (by simp [kin]) fun hbnd => ?_; unfold c_impl_ValuesOk
  simp
  (repeat' first | (with_reducible refine evCd_split (fun h => ?_) (fun h => ?_) <;> (try simp at h)) | (with_reducible refine evGd_split (fun h => ?_) (fun h => ?_) <;> (try simp at h)) | (with_reducible refine evDd_split (fun h => ?_) (fun h => ?_) <;> (try simp at h)) | with_reducible refine And.intro (by (first | omega | (unfold in64; omega))) ?_ | simp)
  · simp [RetV, r_impl_ValuesOk, resL, resV, tup]
    intro h'; have := h'.1; omega
  · refine evC_loop (invValuesOk l) l.length _ ⟨by simp, by simp [subB], by simp [subE], by simp⟩ ⟨0, by omega, by omega, by simp, rfl⟩ ?_
    rintro k st ⟨i, hi, hk, hall, rfl⟩ hbt hbb
    simp
    refine evCd_split (fun hlt => ?_) (fun hge => ?_)
    · simp at hlt
      obtain ⟨b, hb⟩ : ∃ b, l[i]? = some b := ⟨_, List.getElem?_eq_getElem hlt⟩
      obtain ⟨c, hc⟩ : ∃ c, l[i - 1]? = some c := ⟨_, List.getElem?_eq_getElem (by omega)⟩
      clear hbt hbb
      simp [hb, hc]
      (repeat' first | (with_reducible refine evCd_split (fun h => ?_) (fun h => ?_) <;> (try simp at h)) | (with_reducible refine evGd_split (fun h => ?_) (fun h => ?_) <;> (try simp at h)) | (with_reducible refine evDd_split (fun h => ?_) (fun h => ?_) <;> (try simp at h)) | with_reducible refine And.intro (by (first | omega | (unfold in64; omega))) ?_ | with_reducible refine CallDo.val (by simp) (v_TermOk _) ?_ | with_reducible refine CallD.val (by simp) (v_TermOk _) ?_ | simp [hc])
      all_goals first
        | (simp [RetV, r_impl_ValuesOk, resL, resV, tup]; intro h'; have h1 := h'.2 i hlt b hb; have h2 := h1.2.1 c; have h3 := h1.2.2; first | omega | (have := h2 (by omega) hc; omega) | (rw [h3] at h; cases h) | simp_all)
        | (simp only [LoopQ_normal]; refine ⟨l.length - (i + 1), _, by omega, ⟨by simp, by simp [subB], by simp [subE], by simp⟩, i + 1, by omega, rfl, fun j hj => ?_, rfl⟩
           by_cases e : j = i
           · subst e; intro b' hb'; rw [hb] at hb'; cases hb'; refine ⟨by omega, fun c' h0 hc' => ?_, by assumption⟩; rw [hc] at hc'; cases hc'; omega
           · exact hall j (by omega))
    · simp at hge
      simp [RetV, r_impl_ValuesOk, resL, resV, tup]
      exact ⟨by omega, fun j hj => hall j (by omega)⟩
end Go.Proofs.YtchidkafcdmciaaGreat
/- Functions that are handed objects which are not written out: the lemmas by which their calls and ends are run. -/
set_option linter.all false
namespace Go.Pv
open Go Go.RowKit

/-- A set of objects that may be handed on: no names but objects', and what lies in them names none but them. -/
structure ObOk (s : Obs) : Prop where
  obj : objOnly s
  kb : ∀ k cs, look k s.b = some cs → kinL (inObs s) cs
  ke : ∀ k o, look k s.e = some o → kinO (inObs s) o
/-- The same names. -/
structure Same (s s' : Obs) : Prop where
  b : ∀ k, (look k s.b).isSome = (look k s'.b).isSome
  e : ∀ k, (look k s.e).isSome = (look k s'.e).isSome
theorem Same.refl (s : Obs) : Same s s := ⟨fun _ => rfl, fun _ => rfl⟩
theorem Same.trans {a b c : Obs} (h : Same a b) (k : Same b c) : Same a c := ⟨fun x => (h.b x).trans (k.b x), fun x => (h.e x).trans (k.e x)⟩
theorem Same.symm {a b : Obs} (h : Same a b) : Same b a := ⟨fun x => (h.b x).symm, fun x => (h.e x).symm⟩
theorem Same.inObs {s s' : Obs} (h : Same s s') (k : Key) : inObs s k ↔ inObs s' k := by unfold Pv.inObs; rw [h.b, h.e]
theorem Same.kinL {s s' : Obs} (h : Same s s') {l : List PV} (hk : Pv.kinL (Pv.inObs s) l) : Pv.kinL (Pv.inObs s') l := kinL_mono (fun k hk => (h.inObs k).1 hk) l hk
theorem Same.kin {s s' : Obs} (h : Same s s') {p : PV} (hk : Pv.kin (Pv.inObs s) p) : Pv.kin (Pv.inObs s') p := kin_mono (fun k hk => (h.inObs k).1 hk) p hk

theorem look_of_mem {α : Type} {k : Key} {x : α} : ∀ {l : List (Key × α)}, (k, x) ∈ l → (look k l).isSome
  | (i, y) :: r, h => by
    simp only [look]
    split
    · rfl
    · rename_i hne
      rcases List.mem_cons.1 h with h | h
      · cases h; exact absurd rfl hne
      · exact look_of_mem h
theorem inObs_of_mem {s : Obs} {k : Key} (h : k ∈ obsIds s) : inObs s k := by
  unfold obsIds at h
  rcases List.mem_append.1 h with h | h
  · obtain ⟨⟨k', x⟩, h1, rfl⟩ := List.mem_map.1 h; exact .inl (look_of_mem h1)
  · obtain ⟨⟨k', x⟩, h1, rfl⟩ := List.mem_map.1 h; exact .inr (look_of_mem h1)
theorem loc_notin {s : Obs} (h : objOnly s) (m : Nat) : Key.loc m ∉ obsIds s := fun hm => by
  rcases inObs_of_mem hm with h1 | h1
  · rw [h.1 m] at h1; cases h1
  · rw [h.2 m] at h1; cases h1

theorem without_append {α β : Type} (s : List (Key × β)) : ∀ (a b : List (Key × α)), without s (a ++ b) = without s a ++ without s b
  | [], b => rfl
  | (k, x) :: r, b => by
    simp only [List.cons_append, without]
    cases look k s with
    | none => simp [without_append s r b]
    | some _ => exact without_append s r b
theorem without_of {α β : Type} (s : List (Key × β)) : ∀ (l : List (Key × α)), (∀ k x, (k, x) ∈ l → (look k s).isSome) → without s l = []
  | [], _ => rfl
  | (k, x) :: r, h => by
    have h1 := h k x (by simp)
    simp only [without]
    cases hl : look k s with
    | none => rw [hl] at h1; cases h1
    | some _ => exact without_of s r fun k x hx => h k x (by simp [hx])
theorem without_self {α : Type} (s : List (Key × α)) : without s s = [] := without_of s s fun k x h => look_of_mem h
theorem upd_fresh {α : Type} {k : Key} {x : α} : ∀ {l : List (Key × α)}, look k l = none → upd k x l = l ++ [(k, x)]
  | [], _ => rfl
  | (i, y) :: r, h => by
    simp only [look] at h
    split at h
    · cases h
    · rename_i hne
      simp [upd, hne, upd_fresh h]
theorem look_app {α : Type} (k : Key) : ∀ (a b : List (Key × α)), look k (a ++ b) = match look k a with | some x => some x | none => look k b
  | [], b => rfl
  | (i, y) :: r, b => by
    simp only [List.cons_append, look]
    split
    · rfl
    · exact look_app k r b

/-- A call that is handed the objects s. -/
theorem CallDo.ob {P : Program} {n : Nat} {args : List PV} {st : St} {d : Option Nat} {K : St → Prop} {s : Obs} {Q : PV → Obs → Prop} (hf : FnG P n args s Q) (hs : ObOk s) (hb : ∀ k cs, look k s.b = some cs → look k st.b = some cs) (he : ∀ k o, look k s.e = some o → look k st.e = some o)
    (hk : kinL (inObs s) args) (h : ∀ r s', Q r s' → Same s s' ∧ K ⟨putO d r st.t, without s.b st.b ++ s'.b, without s.e st.e ++ s'.e, st.n, st.o ++ obsIds s'⟩) : CallDo P n args st d K := by
  refine ⟨s, Q, fun k cs hc => ⟨hb k cs hc, .inl (by simp [hc]), hs.kb k cs hc⟩, fun k o ho => ⟨he k o ho, .inr (by simp [ho]), hs.ke k o ho⟩, hs.obj, hk, hf, fun r s' hq => ?_⟩
  obtain ⟨h1, h2⟩ := h r s' hq
  exact ⟨⟨fun m hm => .inl (by rw [h1.b]; exact hm), fun m hm => .inl (by rw [h1.e]; exact hm)⟩, h2⟩

/-- The end of a function that hands the objects back. -/
theorem RetQ.ob {rs : List RV} {s s' : Obs} {Q : PV → Obs → Prop} {e : Exit} {st : St} {c : Prop} {ps : List PV} (hee : e = .ret ∨ e = .normal) (hres : resL st rs = some (c, ps)) (hc : c) (hs : ObOk s') (hss : Same s s') (hb : ∀ k cs, look k s'.b = some cs → look k st.b = some cs) (hE : ∀ k o, look k s'.e = some o → look k st.e = some o)
    (hk : kin (inObs s') (strip (tup ps))) (hq : Q (strip (tup ps)) s') : RetQ rs s Q e st := by
  refine ⟨hee, ?_⟩
  rw [hres]
  have hkeep : ∀ {α : Type} (l : List (Key × α)), (∀ k x, (k, x) ∈ l → inObs s' k) → keeps s' l := by
    intro α l
    induction l with
    | nil => intro _; trivial
    | cons x r ih =>
      obtain ⟨k, x⟩ := x
      intro h
      exact ⟨h k x (by simp), ih fun k x hx => h k x (by simp [hx])⟩
  exact ⟨hc, s', hkeep _ fun k x hx => .inl (by rw [← hss.b]; exact look_of_mem hx), hkeep _ fun k x hx => .inr (by rw [← hss.e]; exact look_of_mem hx), fun k cs hcs => ⟨hb k cs hcs, .inl (by simp [hcs]), hs.kb k cs hcs⟩, fun k o ho => ⟨hE k o ho, .inr (by simp [ho]), hs.ke k o ho⟩, hs.obj, hk, hq⟩

theorem FnG.mono {P : Program} {f : FuncId} {args : List PV} {s : Obs} {Q Q' : PV → Obs → Prop} (h : FnG P f args s Q) (hq : ∀ r s', Q r s' → Q' r s') : FnG P f args s Q' := by
  intro w ν vs h1 h2 h3
  have hm : ∀ (e : Ending) (w' : World), (∃ v r s' ν', e = .returned v ∧ Q r s' ∧ rep w' ν' r v ∧ Good (fun bl => blocksOf ν s bl ∨ w.heap.size ≤ bl) w' ν' s'.b s'.e ∧ exactE ν' s' ∧ objOnly s' ∧ Fr ⟨w, ν, blocksOf ν s, 0, obsIds s⟩ w' ν') → (∃ v r s' ν', e = .returned v ∧ Q' r s' ∧ rep w' ν' r v ∧ Good (fun bl => blocksOf ν s bl ∨ w.heap.size ≤ bl) w' ν' s'.b s'.e ∧ exactE ν' s' ∧ objOnly s' ∧ Fr ⟨w, ν, blocksOf ν s, 0, obsIds s⟩ w' ν') := by
    rintro e w' ⟨v, r, s', ν', a1, a2, a3⟩
    exact ⟨v, r, s', ν', a1, hq _ _ a2, a3⟩
  rcases h w ν vs h1 h2 h3 with ⟨hfn, hc⟩ | ⟨v, w', hc, hr⟩
  · exact .inl ⟨hfn, hc.mono hm⟩
  · exact .inr ⟨v, w', hc, hm _ _ hr⟩


theorem notFresh_of {s : Obs} {k : Key} (h : inObs s k) : ¬fresh 0 (obsIds s) k := fun hf => hf.2 (obsIds_of h)
/-- At the head of a loop: nothing but some slots and the objects that were handed in. -/
theorem Weaker.ob {s : Obs} (hs : ObOk s) {st : St} {t' : List (Nat × PV)} (ht : ∀ x ∈ t', get x.1 st.t = x.2 ∧ kin (inObs s) x.2) (hb : ∀ k cs, look k s.b = some cs → look k st.b = some cs) (he : ∀ k o, look k s.e = some o → look k st.e = some o) :
    Weaker (obsIds s) st ⟨t', s.b, s.e, 0, obsIds s⟩ :=
  ⟨fun x hx => ⟨(ht x hx).1, kin_mono (fun k hk => notFresh_of hk) _ (ht x hx).2⟩, fun k cs hc => ⟨hb k cs hc, notFresh_of (.inl (by simp [hc])), kinL_mono (fun k hk => notFresh_of hk) _ (hs.kb k cs hc)⟩,
   fun k o ho => ⟨he k o ho, notFresh_of (.inr (by simp [ho])), fun xs hx => kinL_mono (fun k hk => notFresh_of hk) _ (hs.ke k o ho xs hx)⟩, fun m hm => hm⟩

/-- What a function's end owes besides its objects. -/
def ResIs (st : St) (rs : List RV) (R : PV → Prop) : Prop := match resL st rs with
  | some (c, ps) => c ∧ R (strip (tup ps))
  | none => False
theorem RetQ.at {rs : List RV} {s : Obs} {Q : PV → Obs → Prop} {e : Exit} {st : St} (s' : Obs) (hee : e = .ret ∨ e = .normal) (hs : ObOk s') (hss : Same s s') (hb : ∀ k cs, look k s'.b = some cs → look k st.b = some cs) (hE : ∀ k o, look k s'.e = some o → look k st.e = some o)
    (h : ResIs st rs fun r => kin (inObs s') r ∧ Q r s') : RetQ rs s Q e st := by
  unfold ResIs at h
  split at h
  · rename_i c ps hr
    exact RetQ.ob hee hr h.1 hs hss hb hE h.2.1 h.2.2
  · exact h.elim

/-- The same in a region that draws its order. -/
theorem CallD.ob {P : Program} {nw : List Nat} {n : Nat} {args : List PV} {st : St} {d : Option Nat} {K : St → Prop} {s s' : Obs} {r : PV} (hf : FnG P n args s fun r' t' => r' = r ∧ t' = s') (hs : ObOk s) (hs' : ObOk s') (hss : Same s s') (hb : ∀ k cs, look k s.b = some cs → look k st.b = some cs) (he : ∀ k o, look k s.e = some o → look k st.e = some o)
    (hk : kinL (inObs s) args) (h : K ⟨putO d r st.t, without s.b st.b ++ s'.b, without s.e st.e ++ s'.e, st.n, st.o⟩) : CallD P false nw n args st d K :=
  ⟨s, s', r, none, fun k cs hc => ⟨hb k cs hc, .inl (by simp [hc]), hs.kb k cs hc⟩, fun k o ho => ⟨he k o ho, .inr (by simp [ho]), hs.ke k o ho⟩, hs.obj, hs'.obj, ⟨fun k hk => .inl (by rw [hss.b]; exact hk), fun k hk => .inl (by rw [hss.e]; exact hk), fun k hk => by rw [← hss.b]; exact hk, fun k hk => by rw [← hss.e]; exact hk, fun k hk => by cases hk⟩, hk, hf, (fun e => by cases e), h⟩

/-- A call that hands back one new object, with boxes alone. -/
theorem CallD.new {P : Program} {nw : List Nat} {n : Nat} {args : List PV} {st : St} {d : Option Nat} {K : St → Prop} {m : Nat} {cs : List PV} {r : PV} (hf : FnG P n args ⟨[], []⟩ fun r' t' => r' = r ∧ t' = ⟨[(.obj m, cs)], []⟩) (hm : m ∈ nw) (hb : look (.obj m) st.b = none) (he : look (.obj m) st.e = none)
    (hk : kinL (fun _ => False) args) (h : K ⟨putO d r st.t, st.b ++ [(.obj m, cs)], st.e, st.n, st.o⟩) : CallD P false nw n args st d K := by
  refine ⟨⟨[], []⟩, ⟨[(.obj m, cs)], []⟩, r, some (.obj m), fun k cs hk => by simp [look] at hk, fun k cs hk => by simp [look] at hk, objOnly_nil, ⟨fun j => by simp [look], fun j => by simp [look]⟩, ⟨fun k hk => ?_, fun k hk => by simp [look] at hk, fun k hk => by simp [look] at hk, fun k hk => by simp [look] at hk, fun k hk => ?_⟩, kinL_mono (fun _ h => h.elim) _ hk, hf, (fun e => by cases e), ?_⟩
  · simp only [look] at hk
    split at hk
    · rename_i e; subst e; exact .inr rfl
    · cases hk
  · simp only [Option.some.injEq] at hk
    subst hk
    exact ⟨⟨m, hm, rfl⟩, hb, he, .inl (by simp [look])⟩
  · have : ({ after st ⟨[], []⟩ ⟨[(.obj m, cs)], []⟩ d r with o := st.o } : St) = ⟨putO d r st.t, st.b ++ [(.obj m, cs)], st.e, st.n, st.o⟩ := by
      simp [after, without_nil]
    rw [this]; exact h
theorem ObOk.of {s : Obs} (ho : objOnly s) (hb : ∀ x ∈ s.b, kinL (inObs s) x.2) (he : ∀ x ∈ s.e, ∀ xs, x.2.xs = some xs → kinL (inObs s) xs) : ObOk s :=
  ⟨ho, fun k cs hk => hb (k, cs) (look_mem hk), fun k o hk xs hx => he (k, o) (look_mem hk) xs hx⟩

@[simp] theorem obsIds_mk (b : List (Key × List PV)) (e : List (Key × Own)) : obsIds ⟨b, e⟩ = b.map (·.1) ++ e.map (·.1) := rfl

theorem upd_app {α : Type} {k : Key} {p : α} : ∀ {a r : List (Key × α)}, look k a = none → upd k p (a ++ r) = a ++ upd k p r
  | [], _, _ => rfl
  | (i, y) :: a, r, h => by
    simp only [look] at h
    split at h
    · cases h
    · rename_i hne
      simp [upd, hne, upd_app h]

theorem kpL {α : Type} {s b : List (Key × α)} (h : ∀ p ∈ s, look p.1 b = some p.2) : ∀ k x, look k s = some x → look k b = some x := fun k x hx => h (k, x) (look_mem hx)
theorem subB_of {S : Key → Prop} {b' b : List (Key × List PV)} (h : ∀ p ∈ b', look p.1 b = some p.2 ∧ S p.1 ∧ kinL S p.2) : subB S b' b := fun k x hx => h (k, x) (look_mem hx)
theorem subE_of {S : Key → Prop} {b' b : List (Key × Own)} (h : ∀ p ∈ b', look p.1 b = some p.2 ∧ S p.1 ∧ kinO S p.2) : subE S b' b := fun k x hx => h (k, x) (look_mem hx)
theorem LoopQ.next {ob : List Key} {I : Nat → St → Prop} {k : Nat} {Q : Exit → St → Prop} {st : St} (k' : Nat) {s' : St} (hk : k' < k) (hi : I k' s') (hw : Weaker ob st s') : LoopQ ob I k Q .normal st := ⟨k', s', hk, hw, hi⟩

end Go.Pv
/- Contracts: functions that are handed functions. -/
set_option linter.all false
namespace Go.Proofs.YtchidkafcdmciaaGreat
open Go Go.Pv

/-- What sort.Search computes. -/
def srch (p : Nat → Bool) (i j : Nat) : Nat := if i < j then (if p ((i + j) / 2) then srch p i ((i + j) / 2) else srch p ((i + j) / 2 + 1) j) else i
termination_by j - i

def invSearch (s : Obs) (n g : Nat) (caps : List PV) (p : Nat → Bool) (k : Nat) (st : St) : Prop :=
  ∃ i j : Nat, i ≤ j ∧ j ≤ n ∧ k = j - i ∧ srch p i j = srch p 0 n ∧ st = ⟨[(1, .func g caps), (5, .int .i64 i), (6, .int .i64 j)], s.b, s.e, 0, obsIds s⟩
set_option maxHeartbeats 1000000 in
theorem g_Search (s : Obs) (hs : ObOk s) (n g : Nat) (hn : n ≤ 1000000) (caps : List PV) (hc : kinL (inObs s) caps) (hst : stripL caps = caps) (p : Nat → Bool) (hf : ∀ i : Nat, i < n → FnG Tryz.prog g (.int .i64 i :: caps) s fun r s' => r = .bool (p i) ∧ s' = s) :
    FnG Tryz.prog 150 [.int .i64 n, .func g caps] s fun r s' => r = .int .i64 (srch p 0 n) ∧ s' = s := by
  refine FnG.mk mixed tysok f_sort_Search ok_sort_Search (by simp) hs.obj fun hbnd hbb => ?_; unfold c_sort_Search
  simp
  refine evC_loop (invSearch s n g caps p) n _ (Weaker.ob hs (by simp [hc]) (by first | (refine kpL ?_; simp; done) | (intro k x hx; first | exact hx | (simp [hx, without_self]; done) | (simp [look_app, without_self, hx]; done) | (cases k <;> simp_all [look_app]; done))) (by first | (refine kpL ?_; simp; done) | (intro k x hx; first | exact hx | (simp [hx, without_self]; done) | (simp [look_app, without_self, hx]; done) | (cases k <;> simp_all [look_app]; done)))) ⟨0, n, by omega, by omega, rfl, rfl, rfl⟩ ?_
  rintro k st ⟨i, j, hij, hj, hk, hsr, rfl⟩ hbt hbb
  clear hbt hbb
  simp
  refine evCd_split (fun hlt => ?_) (fun hge => ?_)
  · simp at hlt
    have hw : IntKind.u64.wrap ((i : Int) + j) = i + j := by simp [IntKind.wrap, IntKind.bits, IntKind.signed]; omega
    obtain ⟨m, hm⟩ : ∃ m, m = (i + j) / 2 := ⟨_, rfl⟩
    have hd : Int.fdiv ((i : Int) + j) 2 = (m : Int) := by rw [Int.fdiv_eq_ediv_of_nonneg _ (by omega)]; omega
    have hw2 : IntKind.i64.wrap (m : Int) = m := by rw [IntWalk.i64_in]; omega
    have hb64 : IntKind.u64.bits = 64 := rfl
    simp [hw, hst, hb64, hd, hw2]
    refine ⟨by unfold in64; omega, ?_⟩
    refine CallDo.ob (hf m (by omega)) hs (by first | (refine kpL ?_; simp; done) | (intro k x hx; first | exact hx | (simp [hx, without_self]; done) | (simp [look_app, without_self, hx]; done) | (cases k <;> simp_all [look_app]; done))) (by first | (refine kpL ?_; simp; done) | (intro k x hx; first | exact hx | (simp [hx, without_self]; done) | (simp [look_app, without_self, hx]; done) | (cases k <;> simp_all [look_app]; done))) (by simp [hc]) ?_
    rintro r s' ⟨rfl, rfl⟩
    refine ⟨Same.refl _, ?_⟩
    simp [without_self]
    (repeat' first | (with_reducible refine evCd_split (fun h => ?_) (fun h => ?_) <;> (try simp at h)) | (with_reducible refine evGd_split (fun h => ?_) (fun h => ?_) <;> (try simp at h)) | (with_reducible refine evDd_split (fun h => ?_) (fun h => ?_) <;> (try simp at h)) | with_reducible refine And.intro (by (first | omega | (unfold in64; omega))) ?_ | simp)
    · simp only [LoopQ_normal]
      refine ⟨j - (m + 1), _, by omega, Weaker.ob hs (by simp [hc]) (by first | (refine kpL ?_; simp; done) | (intro k x hx; first | exact hx | (simp [hx, without_self]; done) | (simp [look_app, without_self, hx]; done) | (cases k <;> simp_all [look_app]; done))) (by first | (refine kpL ?_; simp; done) | (intro k x hx; first | exact hx | (simp [hx, without_self]; done) | (simp [look_app, without_self, hx]; done) | (cases k <;> simp_all [look_app]; done))), m + 1, j, by omega, by omega, rfl, ?_, rfl⟩
      rw [← hsr]; conv => rhs; unfold srch
      simp [hlt, ← hm, h]
    · simp only [LoopQ_normal]
      refine ⟨m - i, _, by omega, Weaker.ob hs (by simp [hc]) (by first | (refine kpL ?_; simp; done) | (intro k x hx; first | exact hx | (simp [hx, without_self]; done) | (simp [look_app, without_self, hx]; done) | (cases k <;> simp_all [look_app]; done))) (by first | (refine kpL ?_; simp; done) | (intro k x hx; first | exact hx | (simp [hx, without_self]; done) | (simp [look_app, without_self, hx]; done) | (cases k <;> simp_all [look_app]; done))), i, m, by omega, by omega, rfl, ?_, rfl⟩
      rw [← hsr]; conv => rhs; unfold srch
      simp [hlt, ← hm, h]
  · simp at hge
    have : srch p 0 n = i := by rw [← hsr]; unfold srch; rw [if_neg (by omega)]
    rw [this]
    simp
    refine RetQ.at s (.inl rfl) hs (Same.refl s) (by first | (refine kpL ?_; simp; done) | (intro k x hx; first | exact hx | (simp [hx, without_self]; done) | (simp [look_app, without_self, hx]; done) | (cases k <;> simp_all [look_app]; done))) (by first | (refine kpL ?_; simp; done) | (intro k x hx; first | exact hx | (simp [hx, without_self]; done) | (simp [look_app, without_self, hx]; done) | (cases k <;> simp_all [look_app]; done))) ?_
    simp [ResIs, r_sort_Search, resL, resV, tup]

/-- What find computes. -/
def fnd (l : List Bd) (v : Int) : Int :=
  let i := srch (fun i => match l[i]? with | some b => decide (v ≤ b.v) | none => false) 0 l.length
  match l[i]? with | some b => if b.v = v then i else -1 | none => -1
theorem g_find1 (l : List Bd) (v : Int) (i : Nat) (b : Bd) (hb : l[i]? = some b) : FnG Tryz.prog 151 [.int .i64 i, .ptr (.obj 101) 0, .ptr (.obj 102) 0] ⟨[(.obj 101, [.slice 5 .no (l.map Bd.e)]), (.obj 102, [.int .i64 v])], []⟩ fun r s' => r = .bool (decide (v ≤ b.v)) ∧ s' = ⟨[(.obj 101, [.slice 5 .no (l.map Bd.e)]), (.obj 102, [.int .i64 v])], []⟩ := by
  have hs : ObOk ⟨[(.obj 101, [.slice 5 .no (l.map Bd.e)]), (.obj 102, [.int .i64 v])], []⟩ := (ObOk.of ⟨by intro m; simp [Pv.look], by intro m; simp [Pv.look]⟩ (by simp [kinL, kin, inObs, Pv.look]) (by simp [kinL, kin, inObs, Pv.look]))
  have hlt : i < l.length := (List.getElem?_eq_some_iff.1 hb).1
  refine FnG.mk mixed tysok f_impl_find_1 ok_impl_find_1 (by simp) hs.obj fun hbnd hbb => ?_; unfold c_impl_find_1
  simp [hb]
  (repeat' first | (with_reducible refine evCd_split (fun h => ?_) (fun h => ?_) <;> (try simp at h)) | (with_reducible refine evGd_split (fun h => ?_) (fun h => ?_) <;> (try simp at h)) | (with_reducible refine evDd_split (fun h => ?_) (fun h => ?_) <;> (try simp at h)) | with_reducible refine And.intro (by (first | omega | (unfold in64; omega))) ?_ | simp)
  refine RetQ.at _ (.inl rfl) hs (Same.refl _) (by first | (refine kpL ?_; simp; done) | (intro k x hx; first | exact hx | (simp [hx, without_self]; done) | (simp [look_app, without_self, hx]; done) | (cases k <;> simp_all [look_app]; done))) (by first | (refine kpL ?_; simp; done) | (intro k x hx; first | exact hx | (simp [hx, without_self]; done) | (simp [look_app, without_self, hx]; done) | (cases k <;> simp_all [look_app]; done))) ?_
  simp [ResIs, r_impl_find_1, resL, resV, tup]
theorem v_find (l : List Bd) (v : Int) (hl : l.length ≤ 1000000) : FnV Tryz.prog 111 [.slice 5 .no (l.map Bd.e), .int .i64 v] (.int .i64 (fnd l v)) := by
  refine FnV.mk mixed tysok f_impl_find ok_impl_find (by simp) (by simp [kin]) fun hbnd => ?_; unfold c_impl_find
  simp
  have hs : ObOk ⟨[(.obj 101, [.slice 5 .no (l.map Bd.e)]), (.obj 102, [.int .i64 v])], []⟩ := (ObOk.of ⟨by intro m; simp [Pv.look], by intro m; simp [Pv.look]⟩ (by simp [kinL, kin, inObs, Pv.look]) (by simp [kinL, kin, inObs, Pv.look]))
  refine CallDo.ob (g_Search ⟨[(.obj 101, [.slice 5 .no (l.map Bd.e)]), (.obj 102, [.int .i64 v])], []⟩ hs l.length 151 hl [.ptr (.obj 101) 0, .ptr (.obj 102) 0] (by simp [inObs]) (by simp) (fun i => match l[i]? with | some b => decide (v ≤ b.v) | none => false) fun i hi => ?_) hs (by first | (refine kpL ?_; simp; done) | (intro k x hx; first | exact hx | (simp [hx, without_self]; done) | (simp [look_app, without_self, hx]; done) | (cases k <;> simp_all [look_app]; done))) (by first | (refine kpL ?_; simp; done) | (intro k x hx; first | exact hx | (simp [hx, without_self]; done) | (simp [look_app, without_self, hx]; done) | (cases k <;> simp_all [look_app]; done))) (by simp [inObs]) ?_
  · obtain ⟨b, hb⟩ : ∃ b, l[i]? = some b := ⟨_, List.getElem?_eq_getElem hi⟩
    simp only [hb]
    exact g_find1 l v i b hb
  rintro r s' ⟨rfl, rfl⟩
  refine ⟨Same.refl _, ?_⟩
  unfold fnd
  generalize srch _ 0 l.length = i
  cases hb : l[i]? with
  | none =>
    have hlt : ¬i < l.length := by simpa using hb
    simp [without, hlt]
    (repeat' first | (with_reducible refine evCd_split (fun h => ?_) (fun h => ?_) <;> (try simp at h)) | (with_reducible refine evGd_split (fun h => ?_) (fun h => ?_) <;> (try simp at h)) | (with_reducible refine evDd_split (fun h => ?_) (fun h => ?_) <;> (try simp at h)) | with_reducible refine And.intro (by (first | omega | (unfold in64; omega))) ?_ | simp)
    all_goals simp [RetV, r_impl_find, resL, resV, tup]
  | some b =>
    have hlt : i < l.length := (List.getElem?_eq_some_iff.1 hb).1
    simp [without, hb, hlt]
    (repeat' first | (with_reducible refine evCd_split (fun h => ?_) (fun h => ?_) <;> (try simp at h)) | (with_reducible refine evGd_split (fun h => ?_) (fun h => ?_) <;> (try simp at h)) | (with_reducible refine evDd_split (fun h => ?_) (fun h => ?_) <;> (try simp at h)) | with_reducible refine And.intro (by (first | omega | (unfold in64; omega))) ?_ | simp [hb])
    all_goals simp [RetV, r_impl_find, resL, resV, tup]
    all_goals simp_all
/-- What put's function computes. -/
def pget (l : List Bd) (v : Int) : Option T := if fnd l v < 0 then none else (l[(fnd l v).toNat]?).map (·.t)
theorem fnd_lt (l : List Bd) (v : Int) : fnd l v < l.length ∧ -1 ≤ fnd l v := by
  unfold fnd
  simp only
  split
  · rename_i b hb
    have := (List.getElem?_eq_some_iff.1 hb).1
    split <;> omega
  · omega
theorem g_put1 (l : List Bd) (v : Int) (hl : l.length ≤ 1000000) (o : Option T) (ho : o = pget l v) : FnG Tryz.prog 110 [.int .i64 v, .ptr (.obj 201) 0] ⟨[(.obj 201, [.slice 5 .no (l.map Bd.e)])], []⟩ fun r s' => r = .tuple [(o.getD .nil).e, .bool o.isSome] ∧ s' = ⟨[(.obj 201, [.slice 5 .no (l.map Bd.e)])], []⟩ := by
  have hs : ObOk ⟨[(.obj 201, [.slice 5 .no (l.map Bd.e)])], []⟩ := (ObOk.of ⟨by intro m; simp [Pv.look], by intro m; simp [Pv.look]⟩ (by simp [kinL, kin, inObs, Pv.look]) (by simp [kinL, kin, inObs, Pv.look]))
  have hlt := (fnd_lt l v).1
  unfold pget at ho
  refine FnG.mk mixed tysok f_impl_put_1 ok_impl_put_1 (by simp) hs.obj fun hbnd hbb => ?_; unfold c_impl_put_1
  simp
  (repeat' first | (with_reducible refine evCd_split (fun h => ?_) (fun h => ?_) <;> (try simp at h)) | (with_reducible refine evGd_split (fun h => ?_) (fun h => ?_) <;> (try simp at h)) | (with_reducible refine evDd_split (fun h => ?_) (fun h => ?_) <;> (try simp at h)) | with_reducible refine And.intro (by (first | omega | (unfold in64; omega))) ?_ | with_reducible refine CallDo.val (by simp) (v_find l v hl) ?_ | with_reducible refine CallD.val (by simp) (v_find l v hl) ?_ | simp)
  · obtain ⟨b, hb⟩ : ∃ b, l[(fnd l v).toNat]? = some b := ⟨_, List.getElem?_eq_getElem (by omega)⟩
    have ho' : o = some b.t := by rw [ho, if_neg (by omega), hb]; rfl
    simp [hb]
    (repeat' first | (with_reducible refine evCd_split (fun h => ?_) (fun h => ?_) <;> (try simp at h)) | (with_reducible refine evGd_split (fun h => ?_) (fun h => ?_) <;> (try simp at h)) | (with_reducible refine evDd_split (fun h => ?_) (fun h => ?_) <;> (try simp at h)) | with_reducible refine And.intro (by (first | omega | (unfold in64; omega))) ?_ | simp [hb])
    refine RetQ.at _ (.inl rfl) hs (Same.refl _) (by first | (refine kpL ?_; simp; done) | (intro k x hx; first | exact hx | (simp [hx, without_self]; done) | (simp [look_app, without_self, hx]; done) | (cases k <;> simp_all [look_app]; done))) (by first | (refine kpL ?_; simp; done) | (intro k x hx; first | exact hx | (simp [hx, without_self]; done) | (simp [look_app, without_self, hx]; done) | (cases k <;> simp_all [look_app]; done))) ?_
    simp [ResIs, r_impl_put_1, resL, resV, tup]
    simp [ho']
  · have ho' : o = none := by rw [ho, if_pos h]
    refine RetQ.at _ (.inl rfl) hs (Same.refl _) (by first | (refine kpL ?_; simp; done) | (intro k x hx; first | exact hx | (simp [hx, without_self]; done) | (simp [look_app, without_self, hx]; done) | (cases k <;> simp_all [look_app]; done))) (by first | (refine kpL ?_; simp; done) | (intro k x hx; first | exact hx | (simp [hx, without_self]; done) | (simp [look_app, without_self, hx]; done) | (cases k <;> simp_all [look_app]; done))) ?_
    simp [ResIs, r_impl_put_1, resL, resV, tup]
    simp [ho']
set_option maxHeartbeats 1000000 in
theorem g_sizeWith (s : Obs) (hs : ObOk s) (g : Nat) (caps : List PV) (hc : kinL (inObs s) caps) (hst : stripL caps = caps) (f : Int → Int) (hfb : ∀ v, -1 ≤ f v) (t : T) (hf : ∀ v, t.occ v = true → FnG Tryz.prog g (.int .i64 v :: caps) s fun r s' => r = .int .i64 (f v) ∧ s' = s) :
    FnG Tryz.prog 147 [t.e, .func g caps] s fun r s' => r = .int .i64 (sizeW f t) ∧ s' = s := by
  have hn : ∀ m, Pv.look (.loc m) s.b = none := hs.obj.1
  have hu : ∀ m cs, upd (.loc m) cs s.b = s.b ++ [(.loc m, cs)] := fun m cs => upd_fresh (hn m)
  have ho : ∀ m, Key.loc m ∉ obsIds s := loc_notin hs.obj
  induction t with
  | pair a b iha ihb =>
    have ia := sizeW_le f hfb a
    have ib := sizeW_le f hfb b
    refine FnG.mk mixed tysok f_impl_sizeWith ok_impl_sizeWith (by simp) hs.obj fun hbnd hbb => ?_; unfold c_impl_sizeWith
    simp [hu, ho, look_app, hn, hst]
    (repeat' first | (with_reducible refine evCd_split (fun h => ?_) (fun h => ?_) <;> (try simp at h)) | (with_reducible refine evGd_split (fun h => ?_) (fun h => ?_) <;> (try simp at h)) | (with_reducible refine evDd_split (fun h => ?_) (fun h => ?_) <;> (try simp at h)) | with_reducible refine And.intro (by (first | omega | (unfold in64; omega))) ?_ | simp [hu, ho, look_app, hn])
    refine CallDo.ob (iha fun v hv => hf v (by simp [T.occ, hv])) hs (by first | (refine kpL ?_; simp; done) | (intro k x hx; first | exact hx | (simp [hx, without_self]; done) | (simp [look_app, without_self, hx]; done) | (cases k <;> simp_all [look_app]; done))) (by first | (refine kpL ?_; simp; done) | (intro k x hx; first | exact hx | (simp [hx, without_self]; done) | (simp [look_app, without_self, hx]; done) | (cases k <;> simp_all [look_app]; done))) (by simp [hc]) ?_
    rintro r s' ⟨rfl, rfl⟩
    refine ⟨Same.refl _, ?_⟩
    simp [without_self, without_append, without, hn]
    (repeat' first | (with_reducible refine evCd_split (fun h => ?_) (fun h => ?_) <;> (try simp at h)) | (with_reducible refine evGd_split (fun h => ?_) (fun h => ?_) <;> (try simp at h)) | (with_reducible refine evDd_split (fun h => ?_) (fun h => ?_) <;> (try simp at h)) | with_reducible refine And.intro (by (first | omega | (unfold in64; omega))) ?_ | simp [hu, ho, look_app, hn])
    · refine RetQ.at s' (.inl rfl) hs (Same.refl _) (by first | (refine kpL ?_; simp; done) | (intro k x hx; first | exact hx | (simp [hx, without_self]; done) | (simp [look_app, without_self, hx]; done) | (cases k <;> simp_all [look_app]; done))) (by first | (refine kpL ?_; simp; done) | (intro k x hx; first | exact hx | (simp [hx, without_self]; done) | (simp [look_app, without_self, hx]; done) | (cases k <;> simp_all [look_app]; done))) ?_
      simp [ResIs, r_impl_sizeWith, resL, resV, tup]
      simp [sizeW]; omega
    · rw [hst]
      refine CallDo.ob (ihb fun v hv => hf v (by simp [T.occ, hv])) hs (by first | (refine kpL ?_; simp; done) | (intro k x hx; first | exact hx | (simp [hx, without_self]; done) | (simp [look_app, without_self, hx]; done) | (cases k <;> simp_all [look_app]; done))) (by first | (refine kpL ?_; simp; done) | (intro k x hx; first | exact hx | (simp [hx, without_self]; done) | (simp [look_app, without_self, hx]; done) | (cases k <;> simp_all [look_app]; done))) (by simp [hc]) ?_
      rintro r s2 ⟨rfl, rfl⟩
      refine ⟨Same.refl _, ?_⟩
      simp [without_self, without_append, without, hn]
      (repeat' first | (with_reducible refine evCd_split (fun h => ?_) (fun h => ?_) <;> (try simp at h)) | (with_reducible refine evGd_split (fun h => ?_) (fun h => ?_) <;> (try simp at h)) | (with_reducible refine evDd_split (fun h => ?_) (fun h => ?_) <;> (try simp at h)) | with_reducible refine And.intro (by (first | omega | (unfold in64; omega))) ?_ | simp [hu, ho, look_app, hn])
      refine RetQ.at s2 (.inl rfl) hs (Same.refl _) (by first | (refine kpL ?_; simp; done) | (intro k x hx; first | exact hx | (simp [hx, without_self]; done) | (simp [look_app, without_self, hx]; done) | (cases k <;> simp_all [look_app]; done))) (by first | (refine kpL ?_; simp; done) | (intro k x hx; first | exact hx | (simp [hx, without_self]; done) | (simp [look_app, without_self, hx]; done) | (cases k <;> simp_all [look_app]; done))) ?_
      simp [ResIs, r_impl_sizeWith, resL, resV, tup]
      simp [sizeW]; omega
  | var n =>
    refine FnG.mk mixed tysok f_impl_sizeWith ok_impl_sizeWith (by simp) hs.obj fun hbnd hbb => ?_; unfold c_impl_sizeWith
    simp [hu, ho, look_app, hn, hst]
    (repeat' first | (with_reducible refine evCd_split (fun h => ?_) (fun h => ?_) <;> (try simp at h)) | (with_reducible refine evGd_split (fun h => ?_) (fun h => ?_) <;> (try simp at h)) | (with_reducible refine evDd_split (fun h => ?_) (fun h => ?_) <;> (try simp at h)) | with_reducible refine And.intro (by (first | omega | (unfold in64; omega))) ?_ | simp [hu, ho, look_app, hn])
    refine CallDo.ob (hf n (by simp [T.occ])) hs (by first | (refine kpL ?_; simp; done) | (intro k x hx; first | exact hx | (simp [hx, without_self]; done) | (simp [look_app, without_self, hx]; done) | (cases k <;> simp_all [look_app]; done))) (by first | (refine kpL ?_; simp; done) | (intro k x hx; first | exact hx | (simp [hx, without_self]; done) | (simp [look_app, without_self, hx]; done) | (cases k <;> simp_all [look_app]; done))) (by simp [hc]) ?_
    rintro r s' ⟨rfl, rfl⟩
    refine ⟨Same.refl _, ?_⟩
    simp [without_self, without_append, without, hn]
    refine RetQ.at s' (.inl rfl) hs (Same.refl _) (by first | (refine kpL ?_; simp; done) | (intro k x hx; first | exact hx | (simp [hx, without_self]; done) | (simp [look_app, without_self, hx]; done) | (cases k <;> simp_all [look_app]; done))) (by first | (refine kpL ?_; simp; done) | (intro k x hx; first | exact hx | (simp [hx, without_self]; done) | (simp [look_app, without_self, hx]; done) | (cases k <;> simp_all [look_app]; done))) ?_
    simp [ResIs, r_impl_sizeWith, resL, resV, tup]
    simp [sizeW]
  | _ =>
    refine FnG.mk mixed tysok f_impl_sizeWith ok_impl_sizeWith (by simp) hs.obj fun hbnd hbb => ?_; unfold c_impl_sizeWith
    simp [hu, ho, look_app, hn, hst]
    (repeat' first | (with_reducible refine evCd_split (fun h => ?_) (fun h => ?_) <;> (try simp at h)) | (with_reducible refine evGd_split (fun h => ?_) (fun h => ?_) <;> (try simp at h)) | (with_reducible refine evDd_split (fun h => ?_) (fun h => ?_) <;> (try simp at h)) | with_reducible refine And.intro (by (first | omega | (unfold in64; omega))) ?_ | simp [hu, ho, look_app, hn])
    refine RetQ.at s (.inl rfl) hs (Same.refl _) (by first | (refine kpL ?_; simp; done) | (intro k x hx; first | exact hx | (simp [hx, without_self]; done) | (simp [look_app, without_self, hx]; done) | (cases k <;> simp_all [look_app]; done))) (by first | (refine kpL ?_; simp; done) | (intro k x hx; first | exact hx | (simp [hx, without_self]; done) | (simp [look_app, without_self, hx]; done) | (cases k <;> simp_all [look_app]; done))) ?_
    simp [ResIs, r_impl_sizeWith, resL, resV, tup]
    simp [sizeW]
set_option maxHeartbeats 1000000 in
theorem g_mapVars (s : Obs) (hs : ObOk s) (g : Nat) (caps : List PV) (hc : kinL (inObs s) caps) (hst : stripL caps = caps) (f : Int → Option T) (t : T) (hf : ∀ v, t.occ v = true → FnG Tryz.prog g (.int .i64 v :: caps) s fun r s' => r = .tuple [((f v).getD .nil).e, .bool (f v).isSome] ∧ s' = s) :
    FnG Tryz.prog 149 [t.e, .func g caps] s fun r s' => r = (t.sub f).e ∧ s' = s := by
  have hn : ∀ m, Pv.look (.loc m) s.b = none := hs.obj.1
  have hne : ∀ m, Pv.look (.loc m) s.e = none := hs.obj.2
  have hu : ∀ m cs, upd (.loc m) cs s.b = s.b ++ [(.loc m, cs)] := fun m cs => upd_fresh (hn m)
  have ho : ∀ m, Key.loc m ∉ obsIds s := loc_notin hs.obj
  have hup : ∀ m p r, upd (.loc m) p (s.b ++ r) = s.b ++ upd (.loc m) p r := fun m p r => upd_app (hn m)
  induction t with
  | pair a b iha ihb =>
    refine FnG.mk mixed tysok f_impl_mapVars ok_impl_mapVars (by simp) hs.obj fun hbnd hbb => ?_; unfold c_impl_mapVars
    simp [hu, ho, look_app, hn, hne, hst, hup]
    (repeat' first | (with_reducible refine evCd_split (fun h => ?_) (fun h => ?_) <;> (try simp at h)) | (with_reducible refine evGd_split (fun h => ?_) (fun h => ?_) <;> (try simp at h)) | (with_reducible refine evDd_split (fun h => ?_) (fun h => ?_) <;> (try simp at h)) | with_reducible refine And.intro (by (first | omega | (unfold in64; omega))) ?_ | simp [hu, ho, look_app, hn, hne, hup])
    refine CallD.ob (iha fun v hv => hf v (by simp [T.occ, hv])) hs hs (Same.refl _) (by first | (refine kpL ?_; simp; done) | (intro k x hx; first | exact hx | (simp [hx, without_self]; done) | (simp [look_app, without_self, hx]; done) | (cases k <;> simp_all [look_app]; done))) (by first | (refine kpL ?_; simp; done) | (intro k x hx; first | exact hx | (simp [hx, without_self]; done) | (simp [look_app, without_self, hx]; done) | (cases k <;> simp_all [look_app]; done))) (by simp [hc]) ?_
    simp [without_self, without_append, without, hn, hst]
    refine CallD.ob (ihb fun v hv => hf v (by simp [T.occ, hv])) hs hs (Same.refl _) (by first | (refine kpL ?_; simp; done) | (intro k x hx; first | exact hx | (simp [hx, without_self]; done) | (simp [look_app, without_self, hx]; done) | (cases k <;> simp_all [look_app]; done))) (by first | (refine kpL ?_; simp; done) | (intro k x hx; first | exact hx | (simp [hx, without_self]; done) | (simp [look_app, without_self, hx]; done) | (cases k <;> simp_all [look_app]; done))) (by simp [hc]) ?_
    simp [without_self, without_append, without, hn, hst]
    (repeat' first | (with_reducible refine evCd_split (fun h => ?_) (fun h => ?_) <;> (try simp at h)) | (with_reducible refine evGd_split (fun h => ?_) (fun h => ?_) <;> (try simp at h)) | (with_reducible refine evDd_split (fun h => ?_) (fun h => ?_) <;> (try simp at h)) | with_reducible refine And.intro (by (first | omega | (unfold in64; omega))) ?_ | with_reducible refine CallDo.val (by simp) (v_pair _ _) ?_ | with_reducible refine CallD.val (by simp) (v_pair _ _) ?_ | simp)
    refine RetQ.at s (.inl rfl) hs (Same.refl _) (by first | (refine kpL ?_; simp; done) | (intro k x hx; first | exact hx | (simp [hx, without_self]; done) | (simp [look_app, without_self, hx]; done) | (cases k <;> simp_all [look_app]; done))) (by first | (refine kpL ?_; simp; done) | (intro k x hx; first | exact hx | (simp [hx, without_self]; done) | (simp [look_app, without_self, hx]; done) | (cases k <;> simp_all [look_app]; done))) ?_
    simp [ResIs, r_impl_mapVars, resL, resV, tup, look_app, hn]
    simp [T.sub]
  | var n =>
    refine FnG.mk mixed tysok f_impl_mapVars ok_impl_mapVars (by simp) hs.obj fun hbnd hbb => ?_; unfold c_impl_mapVars
    simp [hu, ho, look_app, hn, hst, hup]
    (repeat' first | (with_reducible refine evCd_split (fun h => ?_) (fun h => ?_) <;> (try simp at h)) | (with_reducible refine evGd_split (fun h => ?_) (fun h => ?_) <;> (try simp at h)) | (with_reducible refine evDd_split (fun h => ?_) (fun h => ?_) <;> (try simp at h)) | with_reducible refine And.intro (by (first | omega | (unfold in64; omega))) ?_ | simp [hu, ho, look_app, hn, hup])
    refine CallDo.ob (hf n (by simp [T.occ])) hs (by first | (refine kpL ?_; simp; done) | (intro k x hx; first | exact hx | (simp [hx, without_self]; done) | (simp [look_app, without_self, hx]; done) | (cases k <;> simp_all [look_app]; done))) (by first | (refine kpL ?_; simp; done) | (intro k x hx; first | exact hx | (simp [hx, without_self]; done) | (simp [look_app, without_self, hx]; done) | (cases k <;> simp_all [look_app]; done))) (by simp [hc]) ?_
    rintro r s' ⟨rfl, rfl⟩
    refine ⟨Same.refl _, ?_⟩
    simp [without_self, without_append, without, hn, hu, ho, look_app]
    (repeat' first | (with_reducible refine evCd_split (fun h => ?_) (fun h => ?_) <;> (try simp at h)) | (with_reducible refine evGd_split (fun h => ?_) (fun h => ?_) <;> (try simp at h)) | (with_reducible refine evDd_split (fun h => ?_) (fun h => ?_) <;> (try simp at h)) | with_reducible refine And.intro (by (first | omega | (unfold in64; omega))) ?_ | with_reducible refine CallDo.val (by simp) (v_copyTerm _) ?_ | with_reducible refine CallD.val (by simp) (v_copyTerm _) ?_ | simp [hu, ho, look_app, hn, hup])
    all_goals refine RetQ.at s' (.inl rfl) hs (Same.refl _) (by first | (refine kpL ?_; simp; done) | (intro k x hx; first | exact hx | (simp [hx, without_self]; done) | (simp [look_app, without_self, hx]; done) | (cases k <;> simp_all [look_app]; done))) (by first | (refine kpL ?_; simp; done) | (intro k x hx; first | exact hx | (simp [hx, without_self]; done) | (simp [look_app, without_self, hx]; done) | (cases k <;> simp_all [look_app]; done))) ?_
    all_goals simp [ResIs, r_impl_mapVars, resL, resV, tup, look_app, hn]
    all_goals cases hfn : f n <;> simp_all [T.sub]
  | _ =>
    refine FnG.mk mixed tysok f_impl_mapVars ok_impl_mapVars (by simp) hs.obj fun hbnd hbb => ?_; unfold c_impl_mapVars
    simp [hu, ho, look_app, hn, hst, hup]
    (repeat' first | (with_reducible refine evCd_split (fun h => ?_) (fun h => ?_) <;> (try simp at h)) | (with_reducible refine evGd_split (fun h => ?_) (fun h => ?_) <;> (try simp at h)) | (with_reducible refine evDd_split (fun h => ?_) (fun h => ?_) <;> (try simp at h)) | with_reducible refine And.intro (by (first | omega | (unfold in64; omega))) ?_ | simp [hu, ho, look_app, hn, hup])
    refine RetQ.at s (.inl rfl) hs (Same.refl _) (by first | (refine kpL ?_; simp; done) | (intro k x hx; first | exact hx | (simp [hx, without_self]; done) | (simp [look_app, without_self, hx]; done) | (cases k <;> simp_all [look_app]; done))) (by first | (refine kpL ?_; simp; done) | (intro k x hx; first | exact hx | (simp [hx, without_self]; done) | (simp [look_app, without_self, hx]; done) | (cases k <;> simp_all [look_app]; done))) ?_
    simp [ResIs, r_impl_mapVars, resL, resV, tup, look_app, hn]
    simp [T.sub]

def S1 (l : List Bd) : Obs := ⟨[(.obj 201, [.slice 5 .no (l.map Bd.e)])], []⟩
def S2 (l : List Bd) : Obs := ⟨[(.obj 201, [.slice 5 .no (l.map Bd.e)]), (.obj 202, [.func 110 [.ptr (.obj 201) 0]])], []⟩
theorem S1_ok (l : List Bd) : ObOk (S1 l) := by unfold S1; exact (ObOk.of ⟨by intro m; simp [Pv.look], by intro m; simp [Pv.look]⟩ (by simp [kinL, kin, inObs, Pv.look]) (by simp [kinL, kin, inObs, Pv.look]))
theorem S2_ok (l : List Bd) : ObOk (S2 l) := by unfold S2; exact (ObOk.of ⟨by intro m; simp [Pv.look], by intro m; simp [Pv.look]⟩ (by simp [kinL, kin, inObs, Pv.look]) (by simp [kinL, kin, inObs, Pv.look]))
def fsz (l : List Bd) (v : Int) : Int := match pget l v with | some x => nodes x.tm 5000 | none => 1
theorem fsz_le (l : List Bd) (v : Int) : -1 ≤ fsz l v := by
  unfold fsz
  split
  · rename_i x _; rcases nodes_cases x.tm 5000 with h | h <;> omega
  · omega
theorem v_nodesOfT (t : T) : FnV Tryz.prog 108 [t.e, .int .i64 5000] (.int .i64 (nodes t.tm 5000)) := by
  have := v_nodesOf t.tm.sz t.tm (Nat.le_refl _) 5000 (by omega)
  rwa [enc_tm] at this
theorem g_replaced1 (l : List Bd) (v : Int) (hl : l.length ≤ 1000000) : FnG Tryz.prog 148 [.int .i64 v, .ptr (.obj 202) 0] (S2 l) fun r s' => r = .int .i64 (fsz l v) ∧ s' = S2 l := by
  have hs := S2_ok l
  unfold S2 at hs ⊢
  refine FnG.mk mixed tysok f_impl_replaced_1 ok_impl_replaced_1 (by simp) hs.obj fun hbnd hbb => ?_; unfold c_impl_replaced_1
  simp
  refine CallDo.ob (g_put1 l v hl _ rfl) (S1_ok l) (by first | (refine kpL ?_; simp; done) | (intro k x hx; first | exact hx | (simp [hx, without_self]; done) | (simp [look_app, without_self, hx]; done) | (cases k <;> simp_all [look_app]; done))) (by first | (refine kpL ?_; simp; done) | (intro k x hx; first | exact hx | (simp [hx, without_self]; done) | (simp [look_app, without_self, hx]; done) | (cases k <;> simp_all [look_app]; done))) (by simp [inObs]) ?_
  rintro r s' ⟨rfl, rfl⟩
  refine ⟨Same.refl _, ?_⟩
  simp [without]
  (repeat' first | (with_reducible refine evCd_split (fun h => ?_) (fun h => ?_) <;> (try simp at h)) | (with_reducible refine evGd_split (fun h => ?_) (fun h => ?_) <;> (try simp at h)) | (with_reducible refine evDd_split (fun h => ?_) (fun h => ?_) <;> (try simp at h)) | with_reducible refine And.intro (by (first | omega | (unfold in64; omega))) ?_ | with_reducible refine CallDo.val (by simp) (v_nodesOfT _) ?_ | with_reducible refine CallD.val (by simp) (v_nodesOfT _) ?_ | simp)
  all_goals refine RetQ.at _ (.inl rfl) hs (Same.refl _) (by first | (refine kpL ?_; simp; done) | (intro k x hx; first | exact hx | (simp [hx, without_self]; done) | (simp [look_app, without_self, hx]; done) | (cases k <;> simp_all [look_app]; done))) (by first | (refine kpL ?_; simp; done) | (intro k x hx; first | exact hx | (simp [hx, without_self]; done) | (simp [look_app, without_self, hx]; done) | (cases k <;> simp_all [look_app]; done))) ?_
  all_goals simp [ResIs, r_impl_replaced_1, resL, resV, tup]
  all_goals unfold fsz
  all_goals cases hp : pget l v <;> simp_all
def putT (l : List Bd) (t : T) : T := t.sub (pget l)
def putOk (l : List Bd) (t : T) : Bool := decide (sizeW (fsz l) t ≤ 5000)
theorem g_replaced (l : List Bd) (t : T) (hl : l.length ≤ 1000000) : FnG Tryz.prog 109 [t.e, .func 110 [.ptr (.obj 201) 0]] (S1 l) fun r s' => r = .tuple [(if putOk l t then putT l t else .nil).e, .bool (putOk l t)] ∧ s' = S1 l := by
  have hs := S1_ok l
  unfold S1 at hs ⊢
  refine FnG.mk mixed tysok f_impl_replaced ok_impl_replaced (by simp) hs.obj fun hbnd hbb => ?_; unfold c_impl_replaced
  simp
  refine CallDo.ob (g_sizeWith (S2 l) (S2_ok l) 148 [.ptr (.obj 202) 0] (by simp [inObs, S2]) (by simp) (fsz l) (fsz_le l) t fun v hv => g_replaced1 l v hl) (S2_ok l) (by unfold S2; exact (by first | (refine kpL ?_; simp; done) | (intro k x hx; first | exact hx | (simp [hx, without_self]; done) | (simp [look_app, without_self, hx]; done) | (cases k <;> simp_all [look_app]; done)))) (by unfold S2; exact (by first | (refine kpL ?_; simp; done) | (intro k x hx; first | exact hx | (simp [hx, without_self]; done) | (simp [look_app, without_self, hx]; done) | (cases k <;> simp_all [look_app]; done)))) (by simp [inObs, S2]) ?_
  rintro r s' ⟨rfl, rfl⟩
  refine ⟨Same.refl _, ?_⟩
  unfold S2
  simp [without]
  (repeat' first | (with_reducible refine evCd_split (fun h => ?_) (fun h => ?_) <;> (try simp at h)) | (with_reducible refine evGd_split (fun h => ?_) (fun h => ?_) <;> (try simp at h)) | (with_reducible refine evDd_split (fun h => ?_) (fun h => ?_) <;> (try simp at h)) | with_reducible refine And.intro (by (first | omega | (unfold in64; omega))) ?_ | simp)
  · refine RetQ.at _ (.inl rfl) hs (Same.refl _) (by first | (refine kpL ?_; simp; done) | (intro k x hx; first | exact hx | (simp [hx, without_self]; done) | (simp [look_app, without_self, hx]; done) | (cases k <;> simp_all [look_app]; done))) (by first | (refine kpL ?_; simp; done) | (intro k x hx; first | exact hx | (simp [hx, without_self]; done) | (simp [look_app, without_self, hx]; done) | (cases k <;> simp_all [look_app]; done))) ?_
    simp [ResIs, r_impl_replaced, resL, resV, tup]
    have : putOk l t = false := by simp [putOk]; omega
    simp [this]
  · refine CallDo.ob (g_mapVars (S1 l) (S1_ok l) 110 [.ptr (.obj 201) 0] (by simp [inObs, S1]) (by simp) (pget l) t fun v hv => g_put1 l v hl _ rfl) (S1_ok l) (by unfold S1; exact (by first | (refine kpL ?_; simp; done) | (intro k x hx; first | exact hx | (simp [hx, without_self]; done) | (simp [look_app, without_self, hx]; done) | (cases k <;> simp_all [look_app]; done)))) (by unfold S1; exact (by first | (refine kpL ?_; simp; done) | (intro k x hx; first | exact hx | (simp [hx, without_self]; done) | (simp [look_app, without_self, hx]; done) | (cases k <;> simp_all [look_app]; done)))) (by simp [inObs, S1]) ?_
    rintro r s' ⟨rfl, rfl⟩
    refine ⟨Same.refl _, ?_⟩
    unfold S1
    simp [without]
    refine RetQ.at _ (.inl rfl) hs (Same.refl _) (by first | (refine kpL ?_; simp; done) | (intro k x hx; first | exact hx | (simp [hx, without_self]; done) | (simp [look_app, without_self, hx]; done) | (cases k <;> simp_all [look_app]; done))) (by first | (refine kpL ?_; simp; done) | (intro k x hx; first | exact hx | (simp [hx, without_self]; done) | (simp [look_app, without_self, hx]; done) | (cases k <;> simp_all [look_app]; done))) ?_
    simp [ResIs, r_impl_replaced, resL, resV, tup]
    have : putOk l t = true := by simp [putOk]; omega
    simp [this, putT]
theorem v_put (l : List Bd) (t : T) (hl : l.length ≤ 1000000) : FnV Tryz.prog 57 [.slice 5 .no (l.map Bd.e), t.e] (.tuple [(if putOk l t then putT l t else .nil).e, .bool (putOk l t)]) := by
  refine FnV.mk mixed tysok f_impl_put ok_impl_put (by simp) (by simp [kin]) fun hbnd => ?_; unfold c_impl_put
  simp
  refine CallDo.ob (g_replaced l t hl) (S1_ok l) (by unfold S1; exact (by first | (refine kpL ?_; simp; done) | (intro k x hx; first | exact hx | (simp [hx, without_self]; done) | (simp [look_app, without_self, hx]; done) | (cases k <;> simp_all [look_app]; done)))) (by unfold S1; exact (by first | (refine kpL ?_; simp; done) | (intro k x hx; first | exact hx | (simp [hx, without_self]; done) | (simp [look_app, without_self, hx]; done) | (cases k <;> simp_all [look_app]; done)))) (by simp [inObs, S1]) ?_
  rintro r s' ⟨rfl, rfl⟩
  refine ⟨Same.refl _, ?_⟩
  unfold S1
  simp [without]
  simp [RetV, r_impl_put, resL, resV, tup]
end Go.Proofs.YtchidkafcdmciaaGreat
/- Maps from integers: as lists of entries in the order of their birth; ranging over one. -/
set_option linter.all false
namespace Go.Pv
open Go Go.RowKit

def flat : List (Int × PV) → List PV
  | [] => []
  | (k, v) :: r => .int .i64 k :: v :: flat r
/-- The content of a map's box. -/
def mapE (l : List (Int × PV)) : List PV := .hdm l.length (List.range l.length) :: flat l
def alook (k : Int) : List (Int × PV) → Option PV
  | [] => none
  | (i, v) :: r => if k = i then some v else alook k r
def aset (k : Int) (v : PV) : List (Int × PV) → Option (List (Int × PV))
  | [] => none
  | (i, w) :: r => if k = i then some ((k, v) :: r) else match aset k v r with | some r' => some ((i, w) :: r') | none => none
def aput (k : Int) (v : PV) (l : List (Int × PV)) : List (Int × PV) := match aset k v l with | some l' => l' | none => l ++ [(k, v)]

@[simp] theorem mapE_nil : [PV.hdm 0 []] = mapE [] := rfl
theorem flat_append : ∀ a b, flat (a ++ b) = flat a ++ flat b
  | [], _ => rfl
  | (k, v) :: r, b => by simp [flat, flat_append r b]
theorem mfind_flat (k : Int) : ∀ l, mfind false (.int .i64 k) (flat l) = some (alook k l)
  | [] => rfl
  | (i, v) :: r => by
    simp only [flat, mfind, keyEq, alook]
    by_cases h : k = i
    · simp [h]
    · have : (k == i) = false := by simp [h]
      simp [h, mfind_flat k r, this]
theorem aset_length {k : Int} {v : PV} : ∀ {l l'}, aset k v l = some l' → l'.length = l.length
  | [], _, h => by simp [aset] at h
  | (i, w) :: r, l', h => by
    simp only [aset] at h
    split at h
    · cases h; rfl
    · split at h
      · rename_i r' hr; cases h; simp [aset_length hr]
      · cases h
theorem mset_flat (k : Int) (v : PV) : ∀ l, mset false (.int .i64 k) v (flat l) = some ((aset k v l).map flat)
  | [] => rfl
  | (i, w) :: r => by
    simp only [flat, mset, keyEq, aset]
    by_cases h : k = i
    · subst h; simp [flat]
    · simp only [and_self, if_true, h, if_false, beq_iff_eq, mset_flat k v r]
      have : (k == i) = false := by simp [h]
      rw [this]
      cases aset k v r <;> simp [flat]
@[simp] theorem mputV_mapE (k : Int) (v : PV) (l : List (Int × PV)) : mputV false (.int .i64 k) v (mapE l) = some (mapE (aput k v l)) := by
  simp only [mapE, mputV, mset_flat, aput]
  cases h : aset k v l with
  | some l' => simp [aset_length h]
  | none => simp [flat_append, flat, List.range_succ]
@[simp] theorem mgetV_mapE (f : Key → Option (List PV)) (m : Key) (l : List (Int × PV)) (z : PV) (ok : Bool) (k : Int) (hm : f m = some (mapE l)) : mgetV f false z ok (.gmap m) (.int .i64 k) = (match alook k l with
    | some v => some (True, if ok then .tuple [v, .bool true] else v)
    | none => some (True, if ok then .tuple [z, .bool false] else z)) := by
  simp only [mgetV_map, hm, mapE, mfind_flat]
  cases alook k l <;> rfl
@[simp] theorem mlenV_mapE (f : Key → Option (List PV)) (m : Key) (l : List (Int × PV)) (hm : f m = some (mapE l)) : mlenV f (.gmap m) = some (True, .int .i64 l.length) := by
  simp [mlenV_map, hm, mapE]
/-- The content of an iterator's box. -/
def iterE (n : Nat) (seen : List Nat) (m : Key) : List PV := [.hdi n seen n, .gmap m]
@[simp] theorem rangeV_mapE (m : Key) (l : List (Int × PV)) : rangeV m (mapE l) = some (iterE l.length [] m) := rfl
@[simp] theorem plainB_mapE (l : List (Int × PV)) : plainB (mapE l) = false := rfl
theorem mat_flat (b : Nat) : ∀ (n : Nat) (l : List (Int × PV)), mat b (List.range' n l.length) (flat l) = (if n ≤ b then (l[b - n]?).map fun x => .tuple [.int .i64 x.1, x.2] else none)
  | n, [] => by simp [mat, flat]
  | n, (k, v) :: r => by
    simp only [List.length_cons, List.range'_succ, flat, mat]
    by_cases h : n = b
    · subst h; simp
    · rw [if_neg h, mat_flat b (n + 1) r]
      by_cases h2 : n ≤ b
      · rw [if_pos h2, if_pos (by omega)]
        have : b - n = (b - (n + 1)) + 1 := by omega
        rw [this]; simp
      · rw [if_neg h2, if_neg (by omega)]
@[simp] theorem mentV_iter (f : Key → Option (List PV)) (ik mk : Key) (n : Nat) (seen : List Nat) (b : Nat) (l : List (Int × PV)) (hi : f ik = some (iterE n (seen ++ [b]) mk)) (hm : f mk = some (mapE l)) (hn : n = l.length) : mentV f (.ptr ik 0) = (l[b]?).map fun x => (True, .tuple [.int .i64 x.1, x.2]) := by
  subst hn
  simp only [mentV_ptr, hi, hm, iterE, mapE, List.getLast?_append, List.getLast?_singleton, Option.some_or, List.range_eq_range', mat_flat, Nat.zero_le, if_true, Nat.sub_zero, Option.map_map]
  cases l[b]? <;> simp
/-- A step of an iterator over a map. -/
theorem ev1n_iter {st : St} {d : Nat} {K : St → Prop} {ik mk : Key} {n : Nat} {seen : List Nat} {l : List (Int × PV)} (hi : look ik st.b = some (iterE n seen mk)) (hm : look mk st.b = some (mapE l)) (hn : n = l.length)
    (h1 : (∀ b, b < n → b ∈ seen) → K { st with t := put d (.tuple [.bool false]) st.t }) (h2 : ∀ b k v, l[b]? = some (k, v) → b ∉ seen → K { st with t := put d (.tuple [.bool true, .int .i64 k, v]) st.t, b := upd ik (iterE n (seen ++ [b]) mk) st.b }) :
    ev1n st d (.ptr ik 0) K := by
  subst hn
  simp only [ev1n, hi, iterE, hm, mapE, nextDo, and_self, true_and]
  refine ⟨fun h => h1 fun b hb => h b (by simpa using hb), fun b k v hmat hb => ?_⟩
  rw [List.range_eq_range', mat_flat] at hmat
  simp only [Nat.zero_le, if_true, Nat.sub_zero, Option.map_eq_some_iff, PV.tuple.injEq, List.cons.injEq, and_true] at hmat
  obtain ⟨⟨k', v'⟩, e1, e2, e3⟩ := hmat
  simp only at e2 e3
  subst e2 e3
  exact h2 b k' v' e1 hb
/-- What was met in the end. -/
theorem perm_seen {n : Nat} {seen : List Nat} (hd : seen.Nodup) (hlt : ∀ b ∈ seen, b < n) (hall : ∀ b, b < n → b ∈ seen) : seen.Perm (List.range n) :=
  (List.perm_ext_iff_of_nodup hd List.nodup_range).2 fun b => ⟨fun h => by simpa using hlt b h, fun h => hall b (by simpa using h)⟩

theorem seen_le {n : Nat} {seen : List Nat} (hd : seen.Nodup) (hlt : ∀ b ∈ seen, b < n) : seen.length ≤ n := by
  have := List.Nodup.length_le_of_subset hd (l₂ := List.range n) (fun b hb => by simpa using hlt b hb)
  simpa using this
theorem seen_lt {n b : Nat} {seen : List Nat} (hd : seen.Nodup) (hlt : ∀ b ∈ seen, b < n) (hb : b < n) (hn : b ∉ seen) : seen.length < n := by
  have h1 : (b :: seen).Nodup := List.nodup_cons.2 ⟨hn, hd⟩
  have := seen_le h1 (n := n) (by simp; exact ⟨hb, hlt⟩)
  simp at this; omega
theorem range_get {α : Type} : ∀ (l pre : List α), (List.range' pre.length l.length).filterMap (fun b => (pre ++ l)[b]?) = l
  | [], _ => rfl
  | x :: r, pre => by
    have ih := range_get r (pre ++ [x])
    simp only [List.length_append, List.length_singleton, List.append_assoc, List.singleton_append] at ih
    simp [List.range'_succ, ih]
theorem seen_all {α : Type} {l : List α} {seen : List Nat} (hd : seen.Nodup) (hlt : ∀ b ∈ seen, b < l.length) (hall : ∀ b, b < l.length → b ∈ seen) : (seen.filterMap fun b => l[b]?).Perm l := by
  have h1 := (perm_seen hd hlt hall).filterMap fun b => l[b]?
  have h2 := range_get l []
  simp only [List.length_nil, List.nil_append, ← List.range_eq_range'] at h2
  rwa [h2] at h1
theorem nodup_snoc {b : Nat} {seen : List Nat} (hd : seen.Nodup) (hn : b ∉ seen) : (seen ++ [b]).Nodup := by
  rw [List.nodup_append]
  exact ⟨hd, by simp, by simp; intro a ha e; subst e; exact hn ha⟩

end Go.Pv
/- Contracts: matching. -/
set_option linter.all false
namespace Go.Proofs.YtchidkafcdmciaaGreat
open Go Go.Pv

/-- A map from variables to terms. -/
def mE (l : List (Int × T)) : List PV := mapE (l.map fun x => (x.1, x.2.e))
def tlook (k : Int) : List (Int × T) → Option T
  | [] => none
  | (i, v) :: r => if k = i then some v else tlook k r
theorem alook_mE (k : Int) : ∀ l : List (Int × T), alook k (l.map fun x => (x.1, x.2.e)) = (tlook k l).map T.e
  | [] => rfl
  | (i, v) :: r => by
    simp only [List.map_cons, alook, tlook]
    split
    · rfl
    · exact alook_mE k r
theorem aset_mE (k : Int) (v : PV) : ∀ l : List (Int × T), tlook k l = none → aset k v (l.map fun x => (x.1, x.2.e)) = none
  | [], _ => rfl
  | (i, w) :: r, h => by
    simp only [tlook] at h
    split at h
    · cases h
    · rename_i hne
      simp [aset, hne, aset_mE k v r h]
theorem mput_mE {k : Int} {t : T} {l : List (Int × T)} (h : tlook k l = none) : mputV false (.int .i64 k) t.e (mE l) = some (mE (l ++ [(k, t)])) := by
  simp [mE, aput, aset_mE k _ l h]
theorem mget_mE {f : Key → Option (List PV)} {m : Key} {l : List (Int × T)} {z : PV} {k : Int} (hm : f m = some (mE l)) : mgetV f false z true (.gmap m) (.int .i64 k) = some (True, .tuple [((tlook k l).map T.e).getD z, .bool (tlook k l).isSome]) := by
  rw [mgetV_mapE f m _ z true k hm, alook_mE]
  cases tlook k l <;> rfl
@[simp] theorem mE_nil : mE [] = mapE [] := rfl
@[simp] theorem rangeV_mE (m : Key) (l : List (Int × T)) : rangeV m (mE l) = some (iterE l.length [] m) := by simp [mE]
@[simp] theorem plainB_mE (l : List (Int × T)) : plainB (mE l) = false := rfl
@[simp] theorem mlenV_mE (f : Key → Option (List PV)) (m : Key) (l : List (Int × T)) (hm : f m = some (mE l)) : mlenV f (.gmap m) = some (True, .int .i64 l.length) := by
  have := mlenV_mapE f m _ hm
  simpa using this
theorem mentV_mE (f : Key → Option (List PV)) (ik mk : Key) (n : Nat) (seen : List Nat) (b : Nat) (l : List (Int × T)) (x : Int × T) (hi : f ik = some (iterE n (seen ++ [b]) mk)) (hm : f mk = some (mE l)) (hn : n = l.length) (hx : l[b]? = some x) : mentV f (.ptr ik 0) = some (True, .tuple [.int .i64 x.1, x.2.e]) := by
  rw [mentV_iter f ik mk n seen b _ hi hm (by simpa using hn)]
  simp [hx]
theorem ev1n_mE {st : St} {d : Nat} {K : St → Prop} {ik mk : Key} {n : Nat} {seen : List Nat} {l : List (Int × T)} (hi : Pv.look ik st.b = some (iterE n seen mk)) (hm : Pv.look mk st.b = some (mE l)) (hn : n = l.length)
    (h1 : (∀ b, b < l.length → b ∈ seen) → K { st with t := Pv.put d (.tuple [.bool false]) st.t }) (h2 : ∀ b x, l[b]? = some x → b ∉ seen → K { st with t := Pv.put d (.tuple [.bool true, .int .i64 x.1, x.2.e]) st.t, b := upd ik (iterE n (seen ++ [b]) mk) st.b }) :
    ev1n st d (.ptr ik 0) K := by
  refine ev1n_iter hi hm (by simpa using hn) (fun h => h1 fun b hb => h b (by omega)) (fun b k v hb hs => ?_)
  simp only [List.getElem?_map, Option.map_eq_some_iff] at hb
  obtain ⟨x, e1, e2⟩ := hb
  simp only [Prod.mk.injEq] at e2
  obtain ⟨rfl, rfl⟩ := e2
  exact h2 b x e1 hs
/-- What matched computes. -/
def mtch : T → T → List (Int × T) → Bool × List (Int × T)
  | .var n, t, m => match tlook n m with
    | some x => (decide (x = t), m)
    | none => (true, m ++ [(n, t)])
  | .pair a b, .pair c d, m => if (mtch a c m).1 then mtch b d (mtch a c m).2 else (false, (mtch a c m).2)
  | p, t, m => (decide (p = t), m)
theorem kinL_mE (S : Key → Prop) (l : List (Int × T)) : kinL S (mE l) := by
  have : ∀ l : List (Int × T), kinL S (flat (l.map fun x => (x.1, x.2.e))) := by
    intro l
    induction l with
    | nil => simp [flat, kinL]
    | cons x r ih => simp [flat, kinL, ih]
  simp [mE, mapE, kinL, this, kin]
def SM (n : Nat) (l : List (Int × T)) : Obs := ⟨[(.obj n, mE l)], []⟩
theorem SM_ok (n : Nat) (l : List (Int × T)) : ObOk (SM n l) := by
  unfold SM
  exact ObOk.of ⟨by intro m; simp [Pv.look], by intro m; simp [Pv.look]⟩ (by simp [kinL_mE]) (by simp)
theorem SM_same (n : Nat) (l l' : List (Int × T)) : Same (SM n l) (SM n l') := by
  refine ⟨fun k => ?_, fun k => rfl⟩
  simp only [SM, Pv.look]
  split <;> rfl
set_option maxHeartbeats 2000000 in
theorem g_matched (K : Nat) (p : T) : ∀ (t : T) (m : List (Int × T)), FnG Tryz.prog 61 [p.e, t.e, .gmap (.obj K)] (SM K m) fun r s' => r = .bool (mtch p t m).1 ∧ s' = SM K (mtch p t m).2 := by
  induction p with
  | var n =>
    intro t m
    have hs := SM_ok K m
    cases hl : tlook n m with
    | some x =>
      unfold SM at hs ⊢
      refine FnG.mk mixed tysok f_impl_matched ok_impl_matched (by simp) hs.obj fun hbnd hbb => ?_; unfold c_impl_matched
      simp [mget_mE (m := .obj K) (l := m), hl]
      (repeat' first | (with_reducible refine evCd_split (fun h => ?_) (fun h => ?_) <;> (try simp at h)) | (with_reducible refine evGd_split (fun h => ?_) (fun h => ?_) <;> (try simp at h)) | (with_reducible refine evDd_split (fun h => ?_) (fun h => ?_) <;> (try simp at h)) | with_reducible refine And.intro (by (first | omega | (unfold in64; omega))) ?_ | with_reducible refine CallDo.val (by simp) (v_equalTerms _ _) ?_ | with_reducible refine CallD.val (by simp) (v_equalTerms _ _) ?_ | simp)
      refine RetQ.at _ (.inl rfl) hs (Same.refl _) (by first | (refine kpL ?_; simp; done) | (intro k x hx; first | exact hx | (simp [hx, without_self]; done) | (simp [look_app, without_self, hx]; done) | (cases k <;> simp_all [look_app]; done))) (by first | (refine kpL ?_; simp; done) | (intro k x hx; first | exact hx | (simp [hx, without_self]; done) | (simp [look_app, without_self, hx]; done) | (cases k <;> simp_all [look_app]; done))) ?_
      simp [ResIs, r_impl_matched, resL, resV, tup]
      simp [mtch, hl]
    | none =>
      have hs' := SM_ok K (m ++ [(n, t)])
      have hsm := SM_same K m (m ++ [(n, t)])
      unfold SM at hs hs' hsm ⊢
      refine FnG.mk mixed tysok f_impl_matched ok_impl_matched (by simp) hs.obj fun hbnd hbb => ?_; unfold c_impl_matched
      simp [mget_mE (m := .obj K) (l := m), hl, mput_mE hl]
      (repeat' first | (with_reducible refine evCd_split (fun h => ?_) (fun h => ?_) <;> (try simp at h)) | (with_reducible refine evGd_split (fun h => ?_) (fun h => ?_) <;> (try simp at h)) | (with_reducible refine evDd_split (fun h => ?_) (fun h => ?_) <;> (try simp at h)) | with_reducible refine And.intro (by (first | omega | (unfold in64; omega))) ?_ | simp)
      refine RetQ.at _ (.inl rfl) hs' hsm (by first | (refine kpL ?_; simp; done) | (intro k x hx; first | exact hx | (simp [hx, without_self]; done) | (simp [look_app, without_self, hx]; done) | (cases k <;> simp_all [look_app]; done))) (by first | (refine kpL ?_; simp; done) | (intro k x hx; first | exact hx | (simp [hx, without_self]; done) | (simp [look_app, without_self, hx]; done) | (cases k <;> simp_all [look_app]; done))) ?_
      simp [ResIs, r_impl_matched, resL, resV, tup]
      simp [mtch, hl]
  | pair a b iha ihb =>
    intro t m
    have hs := SM_ok K m
    cases t with
    | pair c d =>
      unfold SM at hs ⊢
      refine FnG.mk mixed tysok f_impl_matched ok_impl_matched (by simp) hs.obj fun hbnd hbb => ?_; unfold c_impl_matched
      simp
      (repeat' first | (with_reducible refine evCd_split (fun h => ?_) (fun h => ?_) <;> (try simp at h)) | (with_reducible refine evGd_split (fun h => ?_) (fun h => ?_) <;> (try simp at h)) | (with_reducible refine evDd_split (fun h => ?_) (fun h => ?_) <;> (try simp at h)) | with_reducible refine And.intro (by (first | omega | (unfold in64; omega))) ?_ | simp)
      refine CallD.ob (iha c m) (SM_ok K m) (SM_ok K _) (SM_same K _ _) (by unfold SM; exact (by first | (refine kpL ?_; simp; done) | (intro k x hx; first | exact hx | (simp [hx, without_self]; done) | (simp [look_app, without_self, hx]; done) | (cases k <;> simp_all [look_app]; done)))) (by unfold SM; exact (by first | (refine kpL ?_; simp; done) | (intro k x hx; first | exact hx | (simp [hx, without_self]; done) | (simp [look_app, without_self, hx]; done) | (cases k <;> simp_all [look_app]; done)))) (by simp [inObs, SM]) ?_
      unfold SM
      simp [without]
      (repeat' first | (with_reducible refine evCd_split (fun h => ?_) (fun h => ?_) <;> (try simp at h)) | (with_reducible refine evGd_split (fun h => ?_) (fun h => ?_) <;> (try simp at h)) | (with_reducible refine evDd_split (fun h => ?_) (fun h => ?_) <;> (try simp at h)) | with_reducible refine And.intro (by (first | omega | (unfold in64; omega))) ?_ | simp)
      · refine CallD.ob (ihb d (mtch a c m).2) (SM_ok K _) (SM_ok K _) (SM_same K _ _) (by unfold SM; exact (by first | (refine kpL ?_; simp; done) | (intro k x hx; first | exact hx | (simp [hx, without_self]; done) | (simp [look_app, without_self, hx]; done) | (cases k <;> simp_all [look_app]; done)))) (by unfold SM; exact (by first | (refine kpL ?_; simp; done) | (intro k x hx; first | exact hx | (simp [hx, without_self]; done) | (simp [look_app, without_self, hx]; done) | (cases k <;> simp_all [look_app]; done)))) (by simp [inObs, SM]) ?_
        unfold SM
        simp [without]
        have hs' := SM_ok K (mtch b d (mtch a c m).2).2
        have hsm := SM_same K m (mtch b d (mtch a c m).2).2
        unfold SM at hs' hsm
        refine RetQ.at _ (.inl rfl) hs' hsm (by first | (refine kpL ?_; simp; done) | (intro k x hx; first | exact hx | (simp [hx, without_self]; done) | (simp [look_app, without_self, hx]; done) | (cases k <;> simp_all [look_app]; done))) (by first | (refine kpL ?_; simp; done) | (intro k x hx; first | exact hx | (simp [hx, without_self]; done) | (simp [look_app, without_self, hx]; done) | (cases k <;> simp_all [look_app]; done))) ?_
        simp [ResIs, r_impl_matched, resL, resV, tup]
        simp [mtch, h]
      · have hs' := SM_ok K (mtch a c m).2
        have hsm := SM_same K m (mtch a c m).2
        unfold SM at hs' hsm
        refine RetQ.at _ (.inl rfl) hs' hsm (by first | (refine kpL ?_; simp; done) | (intro k x hx; first | exact hx | (simp [hx, without_self]; done) | (simp [look_app, without_self, hx]; done) | (cases k <;> simp_all [look_app]; done))) (by first | (refine kpL ?_; simp; done) | (intro k x hx; first | exact hx | (simp [hx, without_self]; done) | (simp [look_app, without_self, hx]; done) | (cases k <;> simp_all [look_app]; done))) ?_
        simp [ResIs, r_impl_matched, resL, resV, tup]
        simp [mtch, h]
    | _ =>
      unfold SM at hs ⊢
      refine FnG.mk mixed tysok f_impl_matched ok_impl_matched (by simp) hs.obj fun hbnd hbb => ?_; unfold c_impl_matched
      simp
      (repeat' first | (with_reducible refine evCd_split (fun h => ?_) (fun h => ?_) <;> (try simp at h)) | (with_reducible refine evGd_split (fun h => ?_) (fun h => ?_) <;> (try simp at h)) | (with_reducible refine evDd_split (fun h => ?_) (fun h => ?_) <;> (try simp at h)) | with_reducible refine And.intro (by (first | omega | (unfold in64; omega))) ?_ | simp)
      refine RetQ.at _ (.inl rfl) hs (Same.refl _) (by first | (refine kpL ?_; simp; done) | (intro k x hx; first | exact hx | (simp [hx, without_self]; done) | (simp [look_app, without_self, hx]; done) | (cases k <;> simp_all [look_app]; done))) (by first | (refine kpL ?_; simp; done) | (intro k x hx; first | exact hx | (simp [hx, without_self]; done) | (simp [look_app, without_self, hx]; done) | (cases k <;> simp_all [look_app]; done))) ?_
      simp [ResIs, r_impl_matched, resL, resV, tup]
      simp [mtch]
  | _ =>
    intro t m
    have hs := SM_ok K m
    unfold SM at hs ⊢
    cases t <;>
    (refine FnG.mk mixed tysok f_impl_matched ok_impl_matched (by simp) hs.obj fun hbnd hbb => ?_; unfold c_impl_matched
     simp
     (repeat' first | (with_reducible refine evCd_split (fun h => ?_) (fun h => ?_) <;> (try simp at h)) | (with_reducible refine evGd_split (fun h => ?_) (fun h => ?_) <;> (try simp at h)) | (with_reducible refine evDd_split (fun h => ?_) (fun h => ?_) <;> (try simp at h)) | with_reducible refine And.intro (by (first | omega | (unfold in64; omega))) ?_ | simp)
     all_goals refine RetQ.at _ (.inl rfl) hs (Same.refl _) (by first | (refine kpL ?_; simp; done) | (intro k x hx; first | exact hx | (simp [hx, without_self]; done) | (simp [look_app, without_self, hx]; done) | (cases k <;> simp_all [look_app]; done))) (by first | (refine kpL ?_; simp; done) | (intro k x hx; first | exact hx | (simp [hx, without_self]; done) | (simp [look_app, without_self, hx]; done) | (cases k <;> simp_all [look_app]; done))) ?_
     all_goals simp [ResIs, r_impl_matched, resL, resV, tup]
     all_goals simp_all [mtch])

end Go.Proofs.YtchidkafcdmciaaGreat
/- Contracts: instances. -/
set_option linter.all false
namespace Go.Proofs.YtchidkafcdmciaaGreat
open Go Go.Pv

/-- How many entries say something. -/
def says (x : Int × T) : Bool := !(decide (x.2 = .var x.1))
theorem is_var (x : T) (v : Int) : x = .var v ↔ x.kind = 1 ∧ x.int = v := by cases x <;> simp
theorem mtch_len (p : T) : ∀ (t : T) (m : List (Int × T)), (mtch p t m).2.length ≤ m.length + p.size := by
  induction p with
  | var n => intro t m; simp only [mtch]; split <;> simp [T.size]
  | pair a b iha ihb =>
    intro t m
    cases t with
    | pair c d =>
      simp only [mtch, T.size]
      have h1 := iha c m
      have h2 := ihb d (mtch a c m).2
      split
      · omega
      · simp only; omega
    | _ => simp [mtch, T.size]
  | _ => intro t m; cases t <;> simp [mtch, T.size]
def invInst (m : List (Int × T)) (k : Nat) (st : St) : Prop :=
  ∃ (seen : List Nat) (n : Nat), seen.Nodup ∧ (∀ b ∈ seen, b < m.length) ∧ k = m.length - seen.length ∧ n = ((seen.filterMap fun b => m[b]?).filter says).length ∧ st = ⟨[(6, .int .i64 n), (26, .ptr (.loc 2) 0)], [(.obj 301, mE m), (.loc 2, iterE m.length seen (.obj 301))], [], 3, [.obj 301]⟩
set_option maxHeartbeats 1000000 in
theorem v_IsInstance (t p : T) : FnV Tryz.prog 13 [t.e, p.e] (.bool (p.fit && t.fit && (mtch p t []).1 && decide (((mtch p t []).2.filter says).length ≤ 400))) := by
  refine FnV.mk mixed tysok f_impl_IsInstance ok_impl_IsInstance (by simp) (by simp [kin]) fun hbnd => ?_; unfold c_impl_IsInstance
  simp
  (repeat' first | (with_reducible refine evCd_split (fun h => ?_) (fun h => ?_) <;> (try simp at h)) | (with_reducible refine evGd_split (fun h => ?_) (fun h => ?_) <;> (try simp at h)) | (with_reducible refine evDd_split (fun h => ?_) (fun h => ?_) <;> (try simp at h)) | with_reducible refine And.intro (by (first | omega | (unfold in64; omega))) ?_ | with_reducible refine CallDo.val (by simp) (v_TermOkT _) ?_ | with_reducible refine CallD.val (by simp) (v_TermOkT _) ?_ | simp)
  · rename_i hp
    refine CallDo.ob (g_matched 301 p t []) (SM_ok 301 _) (by unfold SM; exact (by first | (refine kpL ?_; simp; done) | (intro k x hx; first | exact hx | (simp [hx, without_self]; done) | (simp [look_app, without_self, hx]; done) | (cases k <;> simp_all [look_app]; done)))) (by unfold SM; exact (by first | (refine kpL ?_; simp; done) | (intro k x hx; first | exact hx | (simp [hx, without_self]; done) | (simp [look_app, without_self, hx]; done) | (cases k <;> simp_all [look_app]; done)))) (by simp [inObs, SM]) ?_
    rintro r s' ⟨rfl, rfl⟩
    refine ⟨SM_same 301 _ _, ?_⟩
    generalize hm : mtch p t [] = res
    obtain ⟨ok, m⟩ := res
    unfold SM
    simp [without]
    (repeat' first | (with_reducible refine evCd_split (fun h => ?_) (fun h => ?_) <;> (try simp at h)) | (with_reducible refine evGd_split (fun h => ?_) (fun h => ?_) <;> (try simp at h)) | (with_reducible refine evDd_split (fun h => ?_) (fun h => ?_) <;> (try simp at h)) | with_reducible refine And.intro (by (first | omega | (unfold in64; omega))) ?_ | simp)
    · simp [RetV, r_impl_IsInstance, resL, resV, tup]
      simp_all
    · refine evC_loop (invInst m) m.length _ ⟨by simp [fresh, kinL, kin, iterE, inObs, Pv.look, kinL_mE], subB_of (by simp [fresh, kinL, kin, iterE, inObs, Pv.look, kinL_mE]), subE_of (by simp [fresh, kinL, kin, kinO, inObs, Pv.look, kinL_mE]), by simp⟩ ⟨[], 0, by simp, by simp, by simp, by simp, rfl⟩ ?_
      rintro k st ⟨seen, n, hd, hlt, hk, hn, rfl⟩ hbt hbb
      clear hbt hbb
      simp
      refine ev1n_mE (mk := .obj 301) (seen := seen) (l := m) (by simp) (by simp) rfl (fun hall => ?_) (fun b x hx hb => ?_)
      · simp
        have hperm := seen_all hd hlt hall
        have hnn : n = (m.filter says).length := by rw [hn]; exact (hperm.filter _).length_eq
        simp [RetV, r_impl_IsInstance, resL, resV, tup]
        rw [← hnn]
        simp_all
        omega
      · have hbl : b < m.length := (List.getElem?_eq_some_iff.1 hx).1
        have hsl := seen_lt hd hlt hbl hb
        have hml : m.length ≤ 5000 := by
          have h1 := mtch_len p t []
          rw [hm] at h1
          simp [T.fit] at hp h1
          omega
        have hnl : n ≤ seen.length := by
          rw [hn]
          exact Nat.le_trans (List.length_filter_le _ _) (List.length_filterMap_le _ _)
        obtain ⟨v, x⟩ := x
        have hment : ∀ f : Key → Option (List PV), f (.loc 2) = some (iterE m.length (seen ++ [b]) (.obj 301)) → f (.obj 301) = some (mE m) → mentV f (.ptr (.loc 2) 0) = some (True, .tuple [.int .i64 v, x.e]) := fun f h1 h2 => mentV_mE f (.loc 2) (.obj 301) m.length seen b m (v, x) h1 h2 rfl hx
        have hstep : ((((seen ++ [b]).filterMap fun b => m[b]?).filter says).length : Int) = n + (if x.kind = 1 ∧ x.int = v then 0 else 1) := by
          rw [List.filterMap_append, List.filter_append, List.length_append, ← hn]
          simp only [List.filterMap_cons, hx, List.filterMap_nil, List.filter_cons, says, is_var]
          by_cases h : x.kind = 1 ∧ x.int = v <;> simp [h]
        simp [hment]
        (repeat' first | (with_reducible refine evCd_split (fun h => ?_) (fun h => ?_) <;> (try simp at h)) | (with_reducible refine evGd_split (fun h => ?_) (fun h => ?_) <;> (try simp at h)) | (with_reducible refine evDd_split (fun h => ?_) (fun h => ?_) <;> (try simp at h)) | with_reducible refine And.intro (by (first | omega | (unfold in64; omega))) ?_ | simp)
        all_goals refine LoopQ.next (m.length - (seen.length + 1)) (by omega) ⟨seen ++ [b], _, nodup_snoc hd hb, (by simp; intro c hc; rcases hc with hc | rfl; exact hlt c hc; exact hbl), by simp, rfl, rfl⟩ ⟨by simp [fresh, kinL, kin, iterE, inObs, Pv.look, kinL_mE, -List.filterMap_append, hstep, *], subB_of (by simp [fresh, kinL, kin, iterE, inObs, Pv.look, kinL_mE, -List.filterMap_append, hstep, *]), subE_of (by simp [fresh, kinL, kin, kinO, inObs, Pv.look, kinL_mE, -List.filterMap_append, hstep, *]), by simp⟩
  all_goals simp [RetV, r_impl_IsInstance, resL, resV, tup]
  all_goals simp_all
end Go.Proofs.YtchidkafcdmciaaGreat
/- Contracts of functions that are not run by the logic: out of and into the model's own words. -/
set_option linter.all false
namespace Go.Pv
open Go Go.RowKit

/-- The relation at the beginning of a call. -/
theorem Rel.start {w : World} {ν : Env} {s : Obs} {args : List PV} {vs : Array Value} (hso : objOnly s) (hg : Good (blocksOf ν s) w ν s.b s.e) (hx : exactE ν s) (hr : repT w ν args vs.toList) :
    Rel ⟨w, ν, blocksOf ν s, vs.size, obsIds s⟩ ⟨slots 0 args, s.b, s.e, 0, obsIds s⟩ { tmps := vs, defers := [] } w ν := by
  have hvl := repT_length hr
  have hvs : vs.size = args.length := by simpa using hvl
  have hnone : ∀ k, fresh 0 (obsIds s) k → ν.bx k = none ∧ ν.ow k = none := by
    intro k hk
    cases k with
    | loc m => exact ⟨(hx _).1 (hso.1 m), (hx _).2 (hso.2 m)⟩
    | obj m =>
      simp only [fresh, true_and] at hk
      constructor
      · refine (hx _).1 ?_
        cases h : look (.obj m) s.b with
        | none => rfl
        | some x => exact absurd (obsIds_of (.inl (by simp [h]))) hk
      · refine (hx _).2 ?_
        cases h : look (.obj m) s.e with
        | none => rfl
        | some x => exact absurd (obsIds_of (.inr (by simp [h]))) hk
  have hin : ∀ m, (ν.bx (.obj m) ≠ none ∨ ν.ow (.obj m) ≠ none) → .obj m ∈ obsIds s := by
    intro m hm
    refine Classical.byContradiction fun hc => ?_
    obtain ⟨h1, h2⟩ := hnone (.obj m) ⟨trivial, hc⟩
    rcases hm with hm | hm
    · exact hm h1
    · exact hm h2
  refine ⟨⟨hg.alt, fun k cs hk => ?_, hg.inj, fun g o hgo => ?_, hg.oinj, hg.obx, hg.one⟩, ⟨rfl, rfl, rfl, Nat.le_refl _, fun _ _ _ => rfl, fun b o h => ⟨h, rfl⟩, fun b o h => .inl h, fun n b h => h, fun n b h => hin n (.inl (by rw [h]; simp)), fun m n u h => ⟨n, u, h, .inl ⟨rfl, rfl⟩⟩, fun m n u h => hin m (.inr (by rw [h]; simp))⟩, rfl, rfl, fun i => ?_, hnone⟩
  · obtain ⟨bl, us, el, g1, g2, g3⟩ := hg.box k cs hk
    exact ⟨bl, us, el, g1, .inl g2, g3⟩
  · obtain ⟨v, us, g1, g2, g3, g4⟩ := hg.own g o hgo
    exact ⟨v, us, g1, g2, fun bl hbl => ⟨.inl (g3 bl hbl).1, (g3 bl hbl).2⟩, g4⟩
  · rw [get_slots]
    by_cases hi : i < args.length
    · rw [if_pos (by omega)]
      have hgi : args[i]? = some args[i] := List.getElem?_eq_getElem hi
      obtain ⟨v, e1, e2⟩ := repT_get i hr hgi
      have e1' : vs[i]? = some v := by simpa using e1
      show rep w ν _ (vs.getD i undef)
      rw [Array.getD_eq_getD_getElem?, e1']
      simpa [List.getD, hgi] using e2
    · rw [if_neg (by omega)]; simp [rep]

/-- A contract out of the model's own words. -/
theorem FnG.sem {P : Program} {f : FuncId} {args : List PV} {s : Obs} {Q : PV → Obs → Prop} (hso : objOnly s)
    (h : ∀ (w : World) (ν : Env) (vs : Array Value), vs.size = args.length → Rel ⟨w, ν, blocksOf ν s, vs.size, obsIds s⟩ ⟨slots 0 args, s.b, s.e, 0, obsIds s⟩ { tmps := vs, defers := [] } w ν →
      Does P f vs w fun e w' => ∃ v st' a' ν' r s', e = .returned v ∧ Rel ⟨w, ν, blocksOf ν s, vs.size, obsIds s⟩ st' a' w' ν' ∧ rep w' ν' r v ∧ keeps s' s.b ∧ keeps s' s.e ∧ subB (inObs s') s'.b st'.b ∧ subE (inObs s') s'.e st'.e ∧ objOnly s' ∧ kin (inObs s') r ∧ Q r s') : FnG P f args s Q := by
  intro w ν vs hg hx hr
  have hvs : vs.size = args.length := by simpa using repT_length hr
  have hrel := Rel.start hso hg hx hr
  have hm : ∀ (e : Ending) (w' : World), (∃ v st' a' ν' r s', e = .returned v ∧ Rel ⟨w, ν, blocksOf ν s, vs.size, obsIds s⟩ st' a' w' ν' ∧ rep w' ν' r v ∧ keeps s' s.b ∧ keeps s' s.e ∧ subB (inObs s') s'.b st'.b ∧ subE (inObs s') s'.e st'.e ∧ objOnly s' ∧ kin (inObs s') r ∧ Q r s') →
      ∃ v r s' ν', e = .returned v ∧ Q r s' ∧ rep w' ν' r v ∧ Good (fun bl => blocksOf ν s bl ∨ w.heap.size ≤ bl) w' ν' s'.b s'.e ∧ exactE ν' s' ∧ objOnly s' ∧ Fr ⟨w, ν, blocksOf ν s, 0, obsIds s⟩ w' ν' := by
    rintro e w' ⟨v, st', a', ν', r, s', rfl, hr', q0, kb, ke, q1, q2, q3, q4, q5⟩
    refine ⟨v, r, s', ν'.cut (inObs s'), rfl, q5, rep_overS (OverS.cut _ w' ν') _ _ q4 q0, hr'.good.cut q1 q2 (fun bl h _ => h), ?_, q3, ?_⟩
    · intro k
      constructor
      · intro hk
        by_cases hs : inObs s' k
        · rw [Env.cut_bx hs]
          rcases hs with hs | hs
          · rw [hk] at hs; cases hs
          · obtain ⟨x, hx'⟩ := Option.isSome_iff_exists.1 hs
            obtain ⟨v', us', e1, _⟩ := hr'.good.own k x (q2 k x hx').1
            rcases hr'.good.one k with h1 | h1
            · exact h1
            · rw [h1] at e1; cases e1
        · exact (Env.cut_no hs).1
      · intro hk
        by_cases hs : inObs s' k
        · rw [Env.cut_ow hs]
          rcases hs with hs | hs
          · obtain ⟨x, hx'⟩ := Option.isSome_iff_exists.1 hs
            obtain ⟨bl, us', el, e1, _⟩ := hr'.good.box k x (q1 k x hx').1
            rcases hr'.good.one k with h1 | h1
            · rw [h1] at e1; cases e1
            · exact h1
          · rw [hk] at hs; cases hs
        · exact (Env.cut_no hs).2
    · refine ⟨hr'.fr.os, hr'.fr.tape, hr'.fr.output, hr'.fr.size, hr'.fr.block, hr'.fr.keep, hr'.fr.fresh, fun n b h => ?_, hr'.fr.obn, fun m n u h => ?_, hr'.fr.obr⟩
      · have hs : inObs s' (.obj n) := by
          cases hl : look (.obj n) s.b with
          | none => rw [(hx _).1 hl] at h; cases h
          | some x => exact keeps_of kb _ (by simp [hl])
        rw [Env.cut_bx hs]; exact hr'.fr.obj n b h
      · have hs : inObs s' (.obj m) := by
          cases hl : look (.obj m) s.e with
          | none => rw [(hx _).2 hl] at h; cases h
          | some x => exact keeps_of ke _ (by simp [hl])
        rw [Env.cut_ow hs]; exact hr'.fr.row m n u h
  rcases h w ν vs hvs hrel with ⟨hfn, hc⟩ | ⟨v, w', hc, hres⟩
  · exact .inl ⟨hfn, hc.mono hm⟩
  · exact .inr ⟨v, w', hc, hm _ _ hres⟩

/-- New blocks and draws that no one knows of. -/
theorem Rel.grown {C : Ctx} {st : St} {a : Act} {w w' : World} {ν : Env} (h : Rel C st a w ν) (hg : w.grownBy w' none) : Rel C st a w' ν := by
  have hov : Over w ν w' ν := ⟨fun b o hA => ⟨hA, cell_grown hg (h.good.alt b o hA)⟩, fun _ _ _ h => h, fun _ n u _ h => ⟨n, u, h, .inl ⟨rfl, rfl⟩⟩⟩
  refine h.over hov rfl ⟨fun b o hA => Nat.lt_of_lt_of_le (h.good.alt b o hA) hg.size, fun k cs hk => ?_, h.good.inj, fun g o hgo => ?_, h.good.oinj, h.good.obx, h.good.one⟩
    ⟨hg.os.trans h.fr.os, hg.tape.trans h.fr.tape, hg.output.trans h.fr.output, Nat.le_trans h.fr.size hg.size, fun k hk hm => ?_, fun b o hA => ?_, h.fr.fresh, h.fr.obj, h.fr.obn, h.fr.row, h.fr.obr⟩ h.new
  · obtain ⟨bl, us, el, g1, g2, g3, g4, g5⟩ := h.good.box k cs hk
    exact ⟨bl, us, el, g1, g2, g3, by rw [hg.block bl (Array.getElem?_eq_some_iff.1 g4).1 (by simp)]; exact g4, repB_over hov g5⟩
  · obtain ⟨v, us, g1, g2, g3, g4⟩ := h.good.own g o hgo
    exact ⟨v, us, g1, g2.kept hg (by cases v.ownBlock <;> simp), g3, rowC_over hov (fun _ _ _ h => h) g4⟩
  · rw [hg.block k (Nat.lt_of_lt_of_le hk h.fr.size) (by simp)]; exact h.fr.block k hk hm
  · obtain ⟨k1, k2⟩ := h.fr.keep b o hA
    exact ⟨k1, (hov.A b o k1).2.trans k2⟩

end Go.Pv
/- What the shelf lays at this translation: sort.Ints and sort.Slice, in plain words (written by the kit's own tool). -/
set_option linter.all false
namespace Go.Proofs
open Go.Shelf
def Tryz.lays191_ren : Go.Shelf.Ren := ⟨fun | 191 => 120 | 189 => 158 | 125 => 156 | 257 => 192 | 128 => 183 | 129 => 184 | 294 => 210 | 295 => 211 | 296 => 212 | 297 => 213 | 298 => 214 | 299 => 215 | 216 => 216 | 300 => 217 | 301 => 218 | 328 => 228 | 329 => 229 | 330 => 230 | 331 => 231 | 332 => 232 | 215 => 233 | 343 => 235 | n => n, fun | 28 => 49 | 0 => 0 | 3 => 3 | 46 => 182 | 51 => 215 | 53 => 217 | 4 => 4 | 183 => 239 | 182 => 238 | 131 => 223 | 5 => 5 | 9 => 9 | 218 => 248 | 222 => 235 | 228 => 251 | 229 => 246 | n => n, fun | n => n⟩
theorem Tryz.lays191 : Go.Proofs.Lays.n191 Tryz.prog Tryz.lays191_ren := {
  mixed := by kernel_rfl
  f125 := Tryz.func156.trans (congrArg some (by kernel_rfl))
  f128 := Tryz.func183.trans (congrArg some (by kernel_rfl))
  f129 := Tryz.func184.trans (congrArg some (by kernel_rfl))
  f189 := Tryz.func158.trans (congrArg some (by kernel_rfl))
  f191 := Tryz.func120.trans (congrArg some (by kernel_rfl))
  f215 := Tryz.func233.trans (congrArg some (by kernel_rfl))
  f216 := Tryz.func216.trans (congrArg some (by kernel_rfl))
  f257 := Tryz.func192.trans (congrArg some (by kernel_rfl))
  f294 := Tryz.func210.trans (congrArg some (by kernel_rfl))
  f295 := Tryz.func211.trans (congrArg some (by kernel_rfl))
  f296 := Tryz.func212.trans (congrArg some (by kernel_rfl))
  f297 := Tryz.func213.trans (congrArg some (by kernel_rfl))
  f298 := Tryz.func214.trans (congrArg some (by kernel_rfl))
  f299 := Tryz.func215.trans (congrArg some (by kernel_rfl))
  f300 := Tryz.func217.trans (congrArg some (by kernel_rfl))
  f301 := Tryz.func218.trans (congrArg some (by kernel_rfl))
  f328 := Tryz.func228.trans (congrArg some (by kernel_rfl))
  f329 := Tryz.func229.trans (congrArg some (by kernel_rfl))
  f330 := Tryz.func230.trans (congrArg some (by kernel_rfl))
  f331 := Tryz.func231.trans (congrArg some (by kernel_rfl))
  f332 := Tryz.func232.trans (congrArg some (by kernel_rfl))
  f343 := Tryz.func235.trans (congrArg some (by kernel_rfl))
  t0 := Tryz.underlying0
  a0 := Tryz.isAgg0
  z0 := Tryz.sizeOf0
  v0 := Tryz.zeroValue0
  t3 := Tryz.underlying3
  a3 := Tryz.isAgg3
  z3 := Tryz.sizeOf3
  v3 := Tryz.zeroValue3
  t4 := Tryz.underlying4
  a4 := Tryz.isAgg4
  z4 := Tryz.sizeOf4
  v4 := Tryz.zeroValue4
  t5 := Tryz.underlying5
  a5 := Tryz.isAgg5
  z5 := Tryz.sizeOf5
  v5 := Tryz.zeroValue5
  t9 := Tryz.underlying9
  a9 := Tryz.isAgg9
  z9 := Tryz.sizeOf9
  v9 := Tryz.zeroValue9
  t28 := Tryz.underlying49
  a28 := Tryz.isAgg49
  z28 := Tryz.sizeOf49
  v28 := Tryz.zeroValue49
  t46 := Tryz.underlying182
  a46 := Tryz.isAgg182
  z46 := Tryz.sizeOf182
  v46 := Tryz.zeroValue182
  t51 := Tryz.underlying215
  a51 := Tryz.isAgg215
  z51 := Tryz.sizeOf215
  v51 := Tryz.zeroValue215
  t53 := Tryz.underlying217
  a53 := Tryz.isAgg217
  z53 := Tryz.sizeOf217
  v53 := Tryz.zeroValue217
  t131 := Tryz.underlying223
  a131 := Tryz.isAgg223
  z131 := Tryz.sizeOf223
  v131 := Tryz.zeroValue223
  t182 := Tryz.underlying238
  a182 := Tryz.isAgg238
  z182 := Tryz.sizeOf238
  v182 := Tryz.zeroValue238
  t183 := Tryz.underlying239
  a183 := Tryz.isAgg239
  z183 := Tryz.sizeOf239
  v183 := Tryz.zeroValue239
  t218 := Tryz.underlying248
  a218 := Tryz.isAgg248
  z218 := Tryz.sizeOf248
  v218 := Tryz.zeroValue248
  t222 := Tryz.underlying235
  a222 := Tryz.isAgg235
  z222 := Tryz.sizeOf235
  v222 := Tryz.zeroValue235
  t228 := Tryz.underlying251
  a228 := Tryz.isAgg251
  z228 := Tryz.sizeOf251
  v228 := Tryz.zeroValue251
  t229 := Tryz.underlying246
  a229 := Tryz.isAgg246
  z229 := Tryz.sizeOf246
  v229 := Tryz.zeroValue246 }
def Tryz.lays6_ren : Go.Shelf.Ren := ⟨fun | 6 => 117 | 10 => 152 | 11 => 153 | 12 => 155 | 13 => 156 | 14 => 157 | 24 => 183 | 25 => 184 | 26 => 181 | 27 => 185 | 28 => 186 | 29 => 187 | 30 => 188 | 31 => 189 | 32 => 190 | 33 => 191 | 34 => 205 | 35 => 206 | 36 => 207 | 37 => 208 | 38 => 209 | 39 => 227 | n => n, fun | 20 => 20 | 26 => 163 | 35 => 194 | 0 => 0 | 37 => 196 | 3 => 3 | 41 => 182 | 44 => 200 | 49 => 215 | 51 => 217 | 4 => 4 | 54 => 219 | 53 => 218 | 58 => 223 | 5 => 5 | 9 => 9 | 60 => 231 | 64 => 235 | 66 => 245 | 67 => 246 | 17 => 17 | 32 => 191 | 33 => 192 | 82 => 266 | 12 => 12 | 75 => 259 | 76 => 260 | 77 => 261 | 78 => 262 | 79 => 263 | 80 => 264 | n => n, fun | n => n⟩
theorem Tryz.lays6 : Go.Proofs.LaysGg.n6 Tryz.prog Tryz.lays6_ren := {
  mixed := by kernel_rfl
  f6 := Tryz.func117.trans (congrArg some (by kernel_rfl))
  f10 := Tryz.func152.trans (congrArg some (by kernel_rfl))
  f11 := Tryz.func153.trans (congrArg some (by kernel_rfl))
  f12 := Tryz.func155.trans (congrArg some (by kernel_rfl))
  f13 := Tryz.func156.trans (congrArg some (by kernel_rfl))
  f14 := Tryz.func157.trans (congrArg some (by kernel_rfl))
  f24 := Tryz.func183.trans (congrArg some (by kernel_rfl))
  f25 := Tryz.func184.trans (congrArg some (by kernel_rfl))
  f26 := Tryz.func181.trans (congrArg some (by kernel_rfl))
  f27 := Tryz.func185.trans (congrArg some (by kernel_rfl))
  f28 := Tryz.func186.trans (congrArg some (by kernel_rfl))
  f29 := Tryz.func187.trans (congrArg some (by kernel_rfl))
  f30 := Tryz.func188.trans (congrArg some (by kernel_rfl))
  f31 := Tryz.func189.trans (congrArg some (by kernel_rfl))
  f32 := Tryz.func190.trans (congrArg some (by kernel_rfl))
  f33 := Tryz.func191.trans (congrArg some (by kernel_rfl))
  f34 := Tryz.func205.trans (congrArg some (by kernel_rfl))
  f35 := Tryz.func206.trans (congrArg some (by kernel_rfl))
  f36 := Tryz.func207.trans (congrArg some (by kernel_rfl))
  f37 := Tryz.func208.trans (congrArg some (by kernel_rfl))
  f38 := Tryz.func209.trans (congrArg some (by kernel_rfl))
  f39 := Tryz.func227.trans (congrArg some (by kernel_rfl))
  t0 := Tryz.underlying0
  a0 := Tryz.isAgg0
  z0 := Tryz.sizeOf0
  v0 := Tryz.zeroValue0
  i0 := by kernel_rfl
  t3 := Tryz.underlying3
  a3 := Tryz.isAgg3
  z3 := Tryz.sizeOf3
  v3 := Tryz.zeroValue3
  i3 := by kernel_rfl
  t4 := Tryz.underlying4
  a4 := Tryz.isAgg4
  z4 := Tryz.sizeOf4
  v4 := Tryz.zeroValue4
  i4 := by kernel_rfl
  t5 := Tryz.underlying5
  a5 := Tryz.isAgg5
  z5 := Tryz.sizeOf5
  v5 := Tryz.zeroValue5
  i5 := by kernel_rfl
  t9 := Tryz.underlying9
  a9 := Tryz.isAgg9
  z9 := Tryz.sizeOf9
  v9 := Tryz.zeroValue9
  i9 := by kernel_rfl
  t12 := Tryz.underlying12
  a12 := Tryz.isAgg12
  z12 := Tryz.sizeOf12
  v12 := Tryz.zeroValue12
  i12 := by kernel_rfl
  t17 := Tryz.underlying17
  a17 := Tryz.isAgg17
  z17 := Tryz.sizeOf17
  v17 := Tryz.zeroValue17
  i17 := by kernel_rfl
  t20 := Tryz.underlying20
  a20 := Tryz.isAgg20
  z20 := Tryz.sizeOf20
  v20 := Tryz.zeroValue20
  i20 := by kernel_rfl
  t26 := Tryz.underlying163
  a26 := Tryz.isAgg163
  z26 := Tryz.sizeOf163
  v26 := Tryz.zeroValue163
  i26 := by kernel_rfl
  t32 := Tryz.underlying191
  a32 := Tryz.isAgg191
  z32 := Tryz.sizeOf191
  v32 := Tryz.zeroValue191
  i32 := by kernel_rfl
  t33 := Tryz.underlying192
  a33 := Tryz.isAgg192
  z33 := Tryz.sizeOf192
  v33 := Tryz.zeroValue192
  i33 := by kernel_rfl
  t35 := Tryz.underlying194
  a35 := Tryz.isAgg194
  z35 := Tryz.sizeOf194
  v35 := Tryz.zeroValue194
  i35 := by kernel_rfl
  t37 := Tryz.underlying196
  a37 := Tryz.isAgg196
  z37 := Tryz.sizeOf196
  v37 := Tryz.zeroValue196
  i37 := by kernel_rfl
  t41 := Tryz.underlying182
  a41 := Tryz.isAgg182
  z41 := Tryz.sizeOf182
  v41 := Tryz.zeroValue182
  i41 := by kernel_rfl
  t44 := Tryz.underlying200
  a44 := Tryz.isAgg200
  z44 := Tryz.sizeOf200
  v44 := Tryz.zeroValue200
  i44 := by kernel_rfl
  t49 := Tryz.underlying215
  a49 := Tryz.isAgg215
  z49 := Tryz.sizeOf215
  v49 := Tryz.zeroValue215
  i49 := by kernel_rfl
  t51 := Tryz.underlying217
  a51 := Tryz.isAgg217
  z51 := Tryz.sizeOf217
  v51 := Tryz.zeroValue217
  i51 := by kernel_rfl
  t53 := Tryz.underlying218
  a53 := Tryz.isAgg218
  z53 := Tryz.sizeOf218
  v53 := Tryz.zeroValue218
  i53 := by kernel_rfl
  t54 := Tryz.underlying219
  a54 := Tryz.isAgg219
  z54 := Tryz.sizeOf219
  v54 := Tryz.zeroValue219
  i54 := by kernel_rfl
  t58 := Tryz.underlying223
  a58 := Tryz.isAgg223
  z58 := Tryz.sizeOf223
  v58 := Tryz.zeroValue223
  i58 := by kernel_rfl
  t60 := Tryz.underlying231
  a60 := Tryz.isAgg231
  z60 := Tryz.sizeOf231
  v60 := Tryz.zeroValue231
  i60 := by kernel_rfl
  t64 := Tryz.underlying235
  a64 := Tryz.isAgg235
  z64 := Tryz.sizeOf235
  v64 := Tryz.zeroValue235
  i64 := by kernel_rfl
  t66 := Tryz.underlying245
  a66 := Tryz.isAgg245
  z66 := Tryz.sizeOf245
  v66 := Tryz.zeroValue245
  i66 := by kernel_rfl
  t67 := Tryz.underlying246
  a67 := Tryz.isAgg246
  z67 := Tryz.sizeOf246
  v67 := Tryz.zeroValue246
  i67 := by kernel_rfl
  t75 := Tryz.underlying259
  a75 := Tryz.isAgg259
  z75 := Tryz.sizeOf259
  v75 := Tryz.zeroValue259
  i75 := by kernel_rfl
  t76 := Tryz.underlying260
  a76 := Tryz.isAgg260
  z76 := Tryz.sizeOf260
  v76 := Tryz.zeroValue260
  i76 := by kernel_rfl
  t77 := Tryz.underlying261
  a77 := Tryz.isAgg261
  z77 := Tryz.sizeOf261
  v77 := Tryz.zeroValue261
  i77 := by kernel_rfl
  t78 := Tryz.underlying262
  a78 := Tryz.isAgg262
  z78 := Tryz.sizeOf262
  v78 := Tryz.zeroValue262
  i78 := by kernel_rfl
  t79 := Tryz.underlying263
  a79 := Tryz.isAgg263
  z79 := Tryz.sizeOf263
  v79 := Tryz.zeroValue263
  i79 := by kernel_rfl
  t80 := Tryz.underlying264
  a80 := Tryz.isAgg264
  z80 := Tryz.sizeOf264
  v80 := Tryz.zeroValue264
  i80 := by kernel_rfl
  t82 := Tryz.underlying266
  a82 := Tryz.isAgg266
  z82 := Tryz.sizeOf266
  v82 := Tryz.zeroValue266
  i82 := by kernel_rfl }
end Go.Proofs
/- The shelf's sort of integers at this translation. -/
/- Contracts: sorting integers. -/
set_option linter.all false
namespace Go.Proofs.YtchidkafcdmciaaGreat
open Go Go.Pv

def intsE (xs : List Int) : List PV := xs.map (PV.int .i64)
theorem repC_ints {w : World} {ν : Env} : ∀ {xs : List Int} {us : List Value}, repC w ν 1 (intsE xs) us → us = xs.map (Value.int .i64)
  | [], us, h => by simpa [intsE, repC] using h
  | x :: xs, us, h => by
    simp only [intsE, List.map_cons, repC] at h
    obtain ⟨u, us', rfl, ⟨h1, _, _⟩, h2⟩ := h
    simp only [rep] at h1
    subst h1
    rw [repC_ints h2]
    rfl
theorem ints_repC (w : World) (ν : Env) : ∀ xs : List Int, repC w ν 1 (intsE xs) (xs.map (Value.int .i64))
  | [] => by simp [intsE, repC]
  | x :: xs => by
    simp only [intsE, List.map_cons, repC]
    exact ⟨.int .i64 x, _, rfl, ⟨by simp [rep], rfl, by intro c hc; simp [Value.cells] at hc; subst hc; rfl⟩, ints_repC w ν xs⟩
def SI (K : Nat) (xs : List Int) : Obs := ⟨[], [(.obj K, ⟨xs.length, 3, 1, some (intsE xs)⟩)]⟩
theorem kinL_ints (S : Key → Prop) (xs : List Int) : kinL S (intsE xs) := by
  induction xs with
  | nil => simp [intsE, kinL]
  | cons x r ih => simp only [intsE, List.map_cons, kinL, kin]; exact ⟨trivial, ih⟩
theorem SI_ok (K : Nat) (xs : List Int) : ObOk (SI K xs) := by
  unfold SI
  refine ObOk.of ⟨by intro m; simp [Pv.look], by intro m; simp [Pv.look]⟩ (by simp) ?_
  intro x hx ys hy
  simp at hx
  subst hx
  simp at hy
  subst hy
  exact kinL_ints _ xs
def sortI (xs : List Int) : List Int := xs.mergeSort fun x y => decide (x ≤ y)
theorem sortI_length (xs : List Int) : (sortI xs).length = xs.length := List.length_mergeSort xs
theorem g_sortInts (K : Nat) (xs : List Int) (hl : xs.length ≤ 1000000) : FnG Tryz.prog 120 [.row 1 (.obj K) xs.length] (SI K xs) fun r s' => r = .tuple [] ∧ s' = SI K (sortI xs) := by
  refine FnG.sem (SI_ok K xs).obj fun w ν vs hvs hr => ?_
  refine .inl ⟨⟨Tryz.f120, Tryz.func120, by kernel_rfl, by kernel_rfl⟩, ?_⟩
  have hslot := hr.slot 0
  simp only [slots, Pv.get, if_true] at hslot
  have hlook : Pv.look (.obj K) (SI K xs).e = some ⟨xs.length, 3, 1, some (intsE xs)⟩ := by simp [SI, Pv.look]
  obtain ⟨v, us, q1, q2, q3, q4⟩ := hr.good.own (.obj K) _ hlook
  obtain ⟨q5, q6, q7⟩ := q4 _ rfl
  have hus := repC_ints q6
  subst hus
  simp only [rep] at hslot
  obtain ⟨⟨b0, cap0, hb0⟩, _, n', u, e1, e2, e3⟩ := hslot
  rw [q1] at e1
  simp only [Option.some.injEq, Prod.mk.injEq] at e1
  obtain ⟨rfl, rfl⟩ := e1
  have hv := e3 rfl
  have hvs1 : vs = #[v] := by
    have h1 : vs.size = 1 := by simpa using hvs
    apply Array.ext (by simpa using h1)
    intro i h2 h3
    simp at h3
    subst h3
    rw [← hv]
    simp [Array.getD, h1]
  have hne : v ≠ .slice none 0 0 := by rw [← hv, hb0]; simp
  obtain ⟨g, cap, rfl, _, hg1, hg2, hg3, hg4, hH⟩ := Lib.holds_of_ownsRow q2 hne
  have hc := Any.sort_Ints Tryz.lays191 g 0 cap xs w hH hg1 (by omega)
  subst hvs1
  refine hc.mono ?_
  rintro e w' ⟨rfl, n, os, rfl⟩
  have hsl := sortI_length xs
  have hown := Lib.ownsRow_putRow (q := n) (k := xs.length) (ys := sortI xs) q2 hsl (Nat.le_refl _)
  rw [List.take_of_length_le (by omega)] at hown
  obtain ⟨p1, p2, _⟩ := hr.setRowM (w' := Sort.putRow (Value.int .i64) (Sort.ahead w n) g 0 (sortI xs).toArray) hlook rfl q1 (bl := g) rfl (v' := .slice (some ⟨g, 0, none⟩) xs.length cap) rfl (xs' := intsE (sortI xs)) (us := (sortI xs).map (Value.int .i64)) (.inl ⟨by simp [intsE, hsl], rfl⟩) rfl rfl rfl
    (fun j hj => by simp [Sort.putRow, Sort.mapBlock, Sort.ahead, Array.getElem?_modify, Ne.symm hj]) (by simp [Sort.putRow, Sort.mapBlock, Sort.ahead]) (by simpa [intsE, hsl] using hown) (ints_repC _ _ _)
  have p3 := p1.grown (w' := Sort.grow (Sort.putRow (Value.int .i64) (Sort.ahead w n) g 0 (sortI xs).toArray) os) ⟨rfl, rfl, rfl, by simp, fun k hk _ => Sort.heap_grow_old _ _ hk⟩
  refine ⟨_, _, _, _, .tuple [], SI K (sortI xs), rfl, p3, by simp [rep, repT], by simp [SI, keeps], ?_, ?_, ?_, (SI_ok K _).obj, by simp [kin, kinL], rfl, rfl⟩
  · simp [SI, keeps, inObs, Pv.look]
  · intro k cs hk; simp [SI, Pv.look] at hk
  · intro k o hk
    have hm := look_mem hk
    simp [SI] at hm
    obtain ⟨rfl, rfl⟩ := hm
    refine ⟨by simp [SI, Pv.look, upd, intsE, hsl], .inr (by simp [hk]), fun ys hy => ?_⟩
    simp at hy
    subst hy
    exact kinL_ints _ _
end Go.Proofs.YtchidkafcdmciaaGreat
