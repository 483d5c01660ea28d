/- made by mk2.py: the code of the functions, and the checks against the program's own form. -/
import Derived.Test.YtchidkafcdmciaaGreatPvQ
import Derived.Test.YtchidkafcdmciaaGreatProg
set_option linter.all false
namespace Go.Proofs.YtchidkafcdmciaaGreat
open Go Go.Pv
/-- laws.FnGround -/
def c_laws_FnGround : C :=
  (.seq (.region [⟨none, .s (.v 2 (.mov (.c (.bool false))))⟩])
  (.seq (.seq (.region [⟨none, .s (.v 16 (.mov (.t 0)))⟩,
    ⟨none, .s (.v 17 (.len (.t 16)))⟩,
    ⟨none, .s (.v 18 (.bin .gtr false (.t 17) (.c (.int .i64 1048576))))⟩])
  (.cond (.t 18)
    (.seq (.region [⟨none, .s (.v 2 (.mov (.c (.bool true))))⟩])
    .ret)
    .skip))
  (.seq (.region [⟨none, .s (.v 19 (.mov (.t 0)))⟩,
    ⟨none, .call (some 20) (.c (.func 7 [])) [(.t 19), (.c (.int .i64 0)), (.c (.int .i64 3))]⟩,
    ⟨none, .s (.v 3 (.mov (.t 20)))⟩])
  (.seq (.region [⟨none, .s (.v 21 (.mov (.t 0)))⟩,
    ⟨none, .call (some 22) (.c (.func 8 [])) [(.t 21), (.c (.int .i64 20)), (.c (.int .i64 8)), (.c (.int .i64 3))]⟩,
    ⟨none, .s (.alloc 4 none (.agg [.int .i64 0, .int .i64 0, .str [], .slice 4 .nil []]))⟩,
    ⟨none, .s (.store 4 (.t 4) (.t 22))⟩])
  (.seq (.drawn true 125 [⟨none, .s (.v 23 (.load true 4 (.t 4)))⟩,
    ⟨none, .s (.v 24 (.build [.int .i64 0, .int .i64 0, .str [], .slice 4 .nil []] [(0, 1, (.c (.int .i64 1))), (1, 1, (.c (.int .i64 1)))]))⟩,
    ⟨none, .s (.v 25 (.build [.int .i64 0, .int .i64 0, .int .i64 0, .str [], .slice 4 .nil []] [(0, 1, (.c (.int .i64 0))), (1, 4, (.t 24))]))⟩,
    ⟨none, .s (.v 26 (.mov (.t 3)))⟩,
    ⟨none, .s (.v 27 (.iaddr 4 (.t 26) (.c (.int .i64 0))))⟩,
    ⟨none, .s (.v 28 (.load true 4 (.t 27)))⟩,
    ⟨none, .s (.v 29 (.build [.int .i64 0, .int .i64 0, .int .i64 0, .str [], .slice 4 .nil []] [(0, 1, (.c (.int .i64 2))), (1, 4, (.t 28))]))⟩,
    ⟨none, .s (.bsl 30 5 30 [(.t 25), (.t 29)])⟩,
    ⟨none, .call (some 31) (.c (.func 9 [])) [(.t 23), (.t 30)]⟩,
    ⟨none, .s (.alloc 5 none (.agg [.int .i64 0, .int .i64 0, .str [], .slice 4 .nil []]))⟩,
    ⟨none, .s (.store 4 (.t 5) (.t 31))⟩])
  (.seq (.region [⟨none, .s (.v 32 (.load true 4 (.t 4)))⟩,
    ⟨none, .s (.v 33 (.mov (.t 3)))⟩,
    ⟨none, .call (some 34) (.c (.func 10 [])) [(.t 32), (.t 33)]⟩,
    ⟨none, .s (.v 6 (.mov (.t 34)))⟩])
  (.seq (.region [⟨none, .s (.v 35 (.load true 4 (.t 5)))⟩,
    ⟨none, .s (.v 36 (.mov (.t 3)))⟩,
    ⟨none, .call (some 37) (.c (.func 10 [])) [(.t 35), (.t 36)]⟩,
    ⟨none, .s (.v 7 (.mov (.t 37)))⟩])
  (.seq (.seq (.region [⟨none, .s (.v 38 (.mov (.t 6)))⟩,
    ⟨none, .s (.v 39 (.len (.t 38)))⟩,
    ⟨none, .s (.v 40 (.bin .lss false (.t 39) (.c (.int .i64 1))))⟩,
    ⟨none, .s (.v 41 (.mov (.t 40)))⟩,
    ⟨(some (41, false)), .s (.v 42 (.mov (.t 7)))⟩,
    ⟨(some (41, false)), .s (.v 43 (.len (.t 42)))⟩,
    ⟨(some (41, false)), .s (.v 44 (.bin .lss false (.t 43) (.c (.int .i64 1))))⟩,
    ⟨none, .s (.v 45 (.pick (.t 41) (.c (.bool true)) (.t 44)))⟩,
    ⟨none, .s (.v 46 (.mov (.t 45)))⟩,
    ⟨(some (46, false)), .s (.v 47 (.mov (.t 6)))⟩,
    ⟨(some (46, false)), .s (.v 48 (.len (.t 47)))⟩,
    ⟨(some (46, false)), .s (.v 49 (.mov (.t 7)))⟩,
    ⟨(some (46, false)), .s (.v 50 (.len (.t 49)))⟩,
    ⟨(some (46, false)), .s (.v 51 (.bin .lss false (.t 48) (.t 50)))⟩,
    ⟨none, .s (.v 52 (.pick (.t 46) (.c (.bool true)) (.t 51)))⟩,
    ⟨none, .s (.v 53 (.mov (.t 52)))⟩,
    ⟨(some (53, false)), .s (.v 54 (.mov (.t 3)))⟩,
    ⟨(some (53, false)), .call (some 55) (.c (.func 11 [])) [(.t 54)]⟩,
    ⟨(some (53, false)), .s (.v 56 (.notB (.t 55)))⟩,
    ⟨none, .s (.v 57 (.pick (.t 53) (.c (.bool true)) (.t 56)))⟩])
  (.cond (.t 57)
    (.seq (.region [⟨none, .s (.v 2 (.mov (.c (.bool false))))⟩])
    .ret)
    .skip))
  (.seq (.seq (.region [⟨none, .s (.v 58 (.mov (.t 6)))⟩,
    ⟨none, .s (.v 59 (.len (.t 58)))⟩,
    ⟨none, .s (.v 60 (.mov (.c (.int .i64 0))))⟩])
  (.block 0 
    (.loop 
      (.seq (.region [⟨none, .s (.v 61 (.bin .lss false (.t 60) (.t 59)))⟩])
      (.seq (.cond (.t 61)
        .skip
        (.exit 0))
      (.seq (.block 1 
        (.seq (.region [⟨none, .s (.v 62 (.mov (.t 60)))⟩,
          ⟨none, .s (.v 63 (.iaddr 4 (.t 58) (.t 60)))⟩,
          ⟨none, .s (.v 64 (.load true 4 (.t 63)))⟩,
          ⟨none, .s (.alloc 9 none (.agg [.int .i64 0, .int .i64 0, .str [], .slice 4 .nil []]))⟩,
          ⟨none, .s (.v 8 (.mov (.t 62)))⟩,
          ⟨none, .s (.store 4 (.t 9) (.t 64))⟩])
        (.seq (.drawn true 125 [⟨none, .s (.v 65 (.load true 4 (.t 9)))⟩,
          ⟨none, .call (some 66) (.c (.func 12 [])) [(.t 65)]⟩,
          ⟨none, .s (.v 67 (.notB (.t 66)))⟩,
          ⟨none, .s (.v 68 (.mov (.t 67)))⟩,
          ⟨(some (68, false)), .s (.v 69 (.load true 4 (.t 9)))⟩,
          ⟨(some (68, false)), .s (.v 70 (.load true 4 (.t 4)))⟩,
          ⟨(some (68, false)), .call (some 71) (.c (.func 13 [])) [(.t 69), (.t 70)]⟩,
          ⟨(some (68, false)), .s (.v 72 (.notB (.t 71)))⟩,
          ⟨none, .s (.v 73 (.pick (.t 68) (.c (.bool true)) (.t 72)))⟩,
          ⟨none, .s (.v 74 (.mov (.t 73)))⟩,
          ⟨(some (74, false)), .s (.v 75 (.mov (.t 8)))⟩,
          ⟨(some (74, false)), .s (.v 76 (.bin .gtr false (.t 75) (.c (.int .i64 0))))⟩,
          ⟨(some (74, false)), .s (.v 77 (.mov (.t 76)))⟩,
          ⟨(some (77, true)), .s (.v 78 (.mov (.t 6)))⟩,
          ⟨(some (77, true)), .s (.v 79 (.mov (.t 8)))⟩,
          ⟨(some (77, true)), .s (.v 80 (.bin .sub false (.t 79) (.c (.int .i64 1))))⟩,
          ⟨(some (77, true)), .s (.v 81 (.iaddr 4 (.t 78) (.t 80)))⟩,
          ⟨(some (77, true)), .s (.v 82 (.load true 4 (.t 81)))⟩,
          ⟨(some (77, true)), .s (.v 83 (.load true 4 (.t 9)))⟩,
          ⟨(some (77, true)), .call (some 84) (.c (.func 14 [])) [(.t 82), (.t 83)]⟩,
          ⟨(some (77, true)), .s (.v 85 (.bin .geq false (.t 84) (.c (.int .i64 0))))⟩,
          ⟨(some (74, false)), .s (.v 86 (.pick (.t 77) (.t 85) (.c (.bool false))))⟩,
          ⟨none, .s (.v 87 (.pick (.t 74) (.c (.bool true)) (.t 86)))⟩])
        (.cond (.t 87)
          (.seq (.region [⟨none, .s (.v 2 (.mov (.c (.bool false))))⟩])
          .ret)
          .skip))))
      (.region [⟨none, .s (.v 88 (.bin .add false (.t 60) (.c (.int .i64 1))))⟩,
        ⟨none, .s (.v 60 (.mov (.t 88)))⟩])))))))
  (.seq (.seq (.region [⟨none, .s (.v 89 (.mov (.t 7)))⟩,
    ⟨none, .s (.v 90 (.len (.t 89)))⟩,
    ⟨none, .s (.v 91 (.mov (.c (.int .i64 0))))⟩])
  (.block 2 
    (.loop 
      (.seq (.region [⟨none, .s (.v 92 (.bin .lss false (.t 91) (.t 90)))⟩])
      (.seq (.cond (.t 92)
        .skip
        (.exit 2))
      (.seq (.block 3 
        (.seq (.region [⟨none, .s (.v 93 (.iaddr 4 (.t 89) (.t 91)))⟩,
          ⟨none, .s (.v 94 (.load true 4 (.t 93)))⟩,
          ⟨none, .s (.alloc 11 none (.agg [.int .i64 0, .int .i64 0, .str [], .slice 4 .nil []]))⟩,
          ⟨none, .s (.store 4 (.t 11) (.t 94))⟩])
        (.seq (.region [⟨none, .s (.v 12 (.mov (.c (.bool false))))⟩])
        (.seq (.seq (.region [⟨none, .s (.v 95 (.mov (.t 6)))⟩,
          ⟨none, .s (.v 96 (.len (.t 95)))⟩,
          ⟨none, .s (.v 97 (.mov (.c (.int .i64 0))))⟩])
        (.block 4 
          (.loop 
            (.seq (.region [⟨none, .s (.v 98 (.bin .lss false (.t 97) (.t 96)))⟩])
            (.seq (.cond (.t 98)
              .skip
              (.exit 4))
            (.seq (.block 5 
              (.seq (.region [⟨none, .s (.v 99 (.iaddr 4 (.t 95) (.t 97)))⟩,
                ⟨none, .s (.v 100 (.load true 4 (.t 99)))⟩,
                ⟨none, .s (.alloc 14 none (.agg [.int .i64 0, .int .i64 0, .str [], .slice 4 .nil []]))⟩,
                ⟨none, .s (.store 4 (.t 14) (.t 100))⟩])
              (.region [⟨none, .s (.v 101 (.mov (.t 12)))⟩,
                ⟨none, .s (.v 102 (.mov (.t 101)))⟩,
                ⟨(some (102, false)), .s (.v 103 (.load true 4 (.t 11)))⟩,
                ⟨(some (102, false)), .s (.v 104 (.load true 4 (.t 14)))⟩,
                ⟨(some (102, false)), .call (some 105) (.c (.func 15 [])) [(.t 103), (.t 104)]⟩,
                ⟨none, .s (.v 106 (.pick (.t 102) (.c (.bool true)) (.t 105)))⟩,
                ⟨none, .s (.v 12 (.mov (.t 106)))⟩])))
            (.region [⟨none, .s (.v 107 (.bin .add false (.t 97) (.c (.int .i64 1))))⟩,
              ⟨none, .s (.v 97 (.mov (.t 107)))⟩])))))))
        (.seq (.region [⟨none, .s (.v 108 (.mov (.t 12)))⟩,
          ⟨none, .s (.v 109 (.notB (.t 108)))⟩])
        (.cond (.t 109)
          (.seq (.region [⟨none, .s (.v 2 (.mov (.c (.bool false))))⟩])
          .ret)
          .skip))))))
      (.region [⟨none, .s (.v 110 (.bin .add false (.t 91) (.c (.int .i64 1))))⟩,
        ⟨none, .s (.v 91 (.mov (.t 110)))⟩])))))))
  (.seq (.region [⟨none, .s (.v 111 (.mov (.t 3)))⟩,
    ⟨none, .call (some 112) (.c (.func 16 [])) [(.t 111)]⟩,
    ⟨none, .s (.v 15 (.mov (.t 112)))⟩])
  (.seq (.region [⟨none, .s (.v 113 (.mov (.t 15)))⟩,
    ⟨none, .call (some 114) (.c (.func 16 [])) [(.t 113)]⟩,
    ⟨none, .s (.v 115 (.mov (.t 15)))⟩,
    ⟨none, .call (some 116) (.c (.func 17 [])) [(.t 114), (.t 115)]⟩,
    ⟨none, .s (.v 117 (.mov (.t 116)))⟩,
    ⟨(some (117, true)), .s (.v 118 (.mov (.t 3)))⟩,
    ⟨(some (117, true)), .call (some 119) (.c (.func 18 [])) [(.t 118), (.c (.int .i64 3))]⟩,
    ⟨(some (117, true)), .s (.v 120 (.len (.t 119)))⟩,
    ⟨(some (117, true)), .s (.v 121 (.mov (.t 3)))⟩,
    ⟨(some (117, true)), .s (.v 122 (.len (.t 121)))⟩,
    ⟨(some (117, true)), .s (.v 123 (.bin .geq false (.t 120) (.t 122)))⟩,
    ⟨none, .s (.v 124 (.pick (.t 117) (.t 123) (.c (.bool false))))⟩,
    ⟨none, .s (.v 2 (.mov (.t 124)))⟩])
  .ret))))))))))))
def r_laws_FnGround : List RV := [.tmp 2]

/-- laws.FnMatching -/
def c_laws_FnMatching : C :=
  (.seq (.region [⟨none, .s (.v 2 (.mov (.c (.bool false))))⟩])
  (.seq (.seq (.region [⟨none, .s (.v 16 (.mov (.t 0)))⟩,
    ⟨none, .s (.v 17 (.len (.t 16)))⟩,
    ⟨none, .s (.v 18 (.bin .gtr false (.t 17) (.c (.int .i64 1048576))))⟩])
  (.cond (.t 18)
    (.seq (.region [⟨none, .s (.v 2 (.mov (.c (.bool true))))⟩])
    .ret)
    .skip))
  (.seq (.region [⟨none, .s (.v 19 (.mov (.t 0)))⟩,
    ⟨none, .call (some 20) (.c (.func 8 [])) [(.t 19), (.c (.int .i64 0)), (.c (.int .i64 8)), (.c (.int .i64 4))]⟩,
    ⟨none, .s (.alloc 3 none (.agg [.int .i64 0, .int .i64 0, .str [], .slice 4 .nil []]))⟩,
    ⟨none, .s (.store 4 (.t 3) (.t 20))⟩])
  (.seq (.region [⟨none, .s (.v 21 (.mov (.t 0)))⟩,
    ⟨none, .call (some 22) (.c (.func 19 [])) [(.t 21), (.c (.int .i64 20)), (.c (.int .i64 4))]⟩,
    ⟨none, .s (.v 4 (.mov (.t 22)))⟩])
  (.seq (.region [⟨none, .s (.v 24 (.load true 4 (.t 3)))⟩,
    ⟨none, .s (.v 25 (.mov (.t 4)))⟩,
    ⟨none, .call (some 26) (.c (.func 20 [])) [(.t 24), (.t 25)]⟩,
    ⟨none, .s (.v 23 (.mov (.t 26)))⟩,
    ⟨none, .s (.v 27 (.ext 0 (.t 23)))⟩,
    ⟨none, .s (.v 28 (.ext 1 (.t 23)))⟩,
    ⟨none, .s (.alloc 5 none (.agg [.int .i64 0, .int .i64 0, .str [], .slice 4 .nil []]))⟩,
    ⟨none, .s (.store 4 (.t 5) (.t 27))⟩,
    ⟨none, .s (.v 6 (.mov (.t 28)))⟩])
  (.seq (.region [⟨none, .s (.v 30 (.load true 4 (.t 3)))⟩,
    ⟨none, .s (.v 31 (.load true 4 (.t 5)))⟩,
    ⟨none, .call (some 32) (.c (.func 21 [])) [(.t 30), (.t 31)]⟩,
    ⟨none, .s (.v 29 (.mov (.t 32)))⟩,
    ⟨none, .s (.v 33 (.ext 0 (.t 29)))⟩,
    ⟨none, .s (.v 34 (.ext 1 (.t 29)))⟩,
    ⟨none, .s (.v 7 (.mov (.t 33)))⟩,
    ⟨none, .s (.v 8 (.mov (.t 34)))⟩])
  (.seq (.seq (.drawn true 134 [⟨none, .s (.v 35 (.mov (.t 6)))⟩,
    ⟨none, .s (.v 36 (.notB (.t 35)))⟩,
    ⟨none, .s (.v 37 (.mov (.t 36)))⟩,
    ⟨(some (37, false)), .s (.v 38 (.load true 4 (.t 5)))⟩,
    ⟨(some (37, false)), .s (.v 39 (.load true 4 (.t 3)))⟩,
    ⟨(some (37, false)), .s (.v 40 (.mov (.t 4)))⟩,
    ⟨(some (37, false)), .call (some 41) (.c (.func 9 [])) [(.t 39), (.t 40)]⟩,
    ⟨(some (37, false)), .call (some 42) (.c (.func 15 [])) [(.t 38), (.t 41)]⟩,
    ⟨(some (37, false)), .s (.v 43 (.notB (.t 42)))⟩,
    ⟨none, .s (.v 44 (.pick (.t 37) (.c (.bool true)) (.t 43)))⟩,
    ⟨none, .s (.v 45 (.mov (.t 44)))⟩,
    ⟨(some (45, false)), .s (.v 46 (.mov (.t 8)))⟩,
    ⟨(some (45, false)), .s (.v 47 (.notB (.t 46)))⟩,
    ⟨none, .s (.v 48 (.pick (.t 45) (.c (.bool true)) (.t 47)))⟩,
    ⟨none, .s (.v 49 (.mov (.t 48)))⟩,
    ⟨(some (49, false)), .s (.v 50 (.load true 4 (.t 5)))⟩,
    ⟨(some (49, false)), .s (.v 51 (.load true 4 (.t 3)))⟩,
    ⟨(some (49, false)), .call (some 52) (.c (.func 13 [])) [(.t 50), (.t 51)]⟩,
    ⟨(some (49, false)), .s (.v 53 (.notB (.t 52)))⟩,
    ⟨none, .s (.v 54 (.pick (.t 49) (.c (.bool true)) (.t 53)))⟩,
    ⟨none, .s (.v 55 (.mov (.t 54)))⟩,
    ⟨(some (55, false)), .s (.v 56 (.mov (.t 7)))⟩,
    ⟨(some (55, false)), .call (some 57) (.c (.func 22 [])) [(.t 56)]⟩,
    ⟨(some (55, false)), .s (.v 58 (.notB (.t 57)))⟩,
    ⟨none, .s (.v 59 (.pick (.t 55) (.c (.bool true)) (.t 58)))⟩])
  (.cond (.t 59)
    (.seq (.region [⟨none, .s (.v 2 (.mov (.c (.bool false))))⟩])
    .ret)
    .skip))
  (.seq (.seq (.region [⟨none, .s (.v 60 (.mov (.t 7)))⟩,
    ⟨none, .s (.v 61 (.len (.t 60)))⟩,
    ⟨none, .s (.v 62 (.mov (.c (.int .i64 0))))⟩])
  (.block 0 
    (.loop 
      (.seq (.region [⟨none, .s (.v 63 (.bin .lss false (.t 62) (.t 61)))⟩])
      (.seq (.cond (.t 63)
        .skip
        (.exit 0))
      (.seq (.block 1 
        (.seq (.region [⟨none, .s (.v 64 (.iaddr 5 (.t 60) (.t 62)))⟩,
          ⟨none, .s (.v 65 (.load true 5 (.t 64)))⟩,
          ⟨none, .s (.alloc 10 none (.agg [.int .i64 0, .int .i64 0, .int .i64 0, .str [], .slice 4 .nil []]))⟩,
          ⟨none, .s (.store 5 (.t 10) (.t 65))⟩])
        (.seq (.drawn true 134 [⟨none, .s (.v 66 (.faddr 0 false 1 (.t 10)))⟩,
          ⟨none, .s (.v 67 (.load false 1 (.t 66)))⟩,
          ⟨none, .s (.v 68 (.bin .lss false (.t 67) (.c (.int .i64 0))))⟩,
          ⟨none, .s (.v 69 (.mov (.t 68)))⟩,
          ⟨(some (69, false)), .s (.v 70 (.faddr 0 false 1 (.t 10)))⟩,
          ⟨(some (69, false)), .s (.v 71 (.load false 1 (.t 70)))⟩,
          ⟨(some (69, false)), .s (.v 72 (.bin .gtr false (.t 71) (.c (.int .i64 3))))⟩,
          ⟨none, .s (.v 73 (.pick (.t 69) (.c (.bool true)) (.t 72)))⟩,
          ⟨none, .s (.v 74 (.mov (.t 73)))⟩,
          ⟨(some (74, false)), .s (.v 75 (.faddr 1 true 4 (.t 10)))⟩,
          ⟨(some (74, false)), .s (.v 76 (.load true 4 (.t 75)))⟩,
          ⟨(some (74, false)), .s (.v 77 (.mov (.t 4)))⟩,
          ⟨(some (74, false)), .s (.v 78 (.faddr 0 false 1 (.t 10)))⟩,
          ⟨(some (74, false)), .s (.v 79 (.load false 1 (.t 78)))⟩,
          ⟨(some (74, false)), .s (.v 80 (.iaddr 5 (.t 77) (.t 79)))⟩,
          ⟨(some (74, false)), .s (.v 81 (.faddr 1 true 4 (.t 80)))⟩,
          ⟨(some (74, false)), .s (.v 82 (.load true 4 (.t 81)))⟩,
          ⟨(some (74, false)), .call (some 83) (.c (.func 15 [])) [(.t 76), (.t 82)]⟩,
          ⟨(some (74, false)), .s (.v 84 (.notB (.t 83)))⟩,
          ⟨none, .s (.v 85 (.pick (.t 74) (.c (.bool true)) (.t 84)))⟩,
          ⟨none, .s (.v 86 (.mov (.t 85)))⟩,
          ⟨(some (86, false)), .s (.v 87 (.faddr 0 false 1 (.t 10)))⟩,
          ⟨(some (86, false)), .s (.v 88 (.load false 1 (.t 87)))⟩,
          ⟨(some (86, false)), .s (.v 89 (.load true 4 (.t 3)))⟩,
          ⟨(some (86, false)), .call (some 90) (.c (.func 23 [])) [(.t 88), (.t 89)]⟩,
          ⟨(some (86, false)), .s (.v 91 (.notB (.t 90)))⟩,
          ⟨none, .s (.v 92 (.pick (.t 86) (.c (.bool true)) (.t 91)))⟩])
        (.cond (.t 92)
          (.seq (.region [⟨none, .s (.v 2 (.mov (.c (.bool false))))⟩])
          .ret)
          .skip))))
      (.region [⟨none, .s (.v 93 (.bin .add false (.t 62) (.c (.int .i64 1))))⟩,
        ⟨none, .s (.v 62 (.mov (.t 93)))⟩])))))))
  (.seq (.region [⟨none, .s (.v 94 (.mov (.t 0)))⟩,
    ⟨none, .s (.v 95 (.load true 4 (.t 5)))⟩,
    ⟨none, .call (some 96) (.c (.func 24 [])) [(.t 94), (.c (.int .i64 40)), (.t 95), (.c (.int .i64 3))]⟩,
    ⟨none, .s (.alloc 11 none (.agg [.int .i64 0, .int .i64 0, .str [], .slice 4 .nil []]))⟩,
    ⟨none, .s (.store 4 (.t 11) (.t 96))⟩])
  (.seq (.region [⟨none, .s (.v 98 (.load true 4 (.t 3)))⟩,
    ⟨none, .s (.v 99 (.load true 4 (.t 11)))⟩,
    ⟨none, .call (some 100) (.c (.func 21 [])) [(.t 98), (.t 99)]⟩,
    ⟨none, .s (.v 97 (.mov (.t 100)))⟩,
    ⟨none, .s (.v 101 (.ext 0 (.t 97)))⟩,
    ⟨none, .s (.v 102 (.ext 1 (.t 97)))⟩,
    ⟨none, .s (.v 12 (.mov (.t 101)))⟩,
    ⟨none, .s (.v 13 (.mov (.t 102)))⟩])
  (.seq (.region [⟨none, .s (.v 104 (.load true 4 (.t 3)))⟩,
    ⟨none, .s (.v 105 (.mov (.t 12)))⟩,
    ⟨none, .call (some 106) (.c (.func 20 [])) [(.t 104), (.t 105)]⟩,
    ⟨none, .s (.v 103 (.mov (.t 106)))⟩,
    ⟨none, .s (.v 107 (.ext 0 (.t 103)))⟩,
    ⟨none, .s (.v 108 (.ext 1 (.t 103)))⟩,
    ⟨none, .s (.alloc 14 none (.agg [.int .i64 0, .int .i64 0, .str [], .slice 4 .nil []]))⟩,
    ⟨none, .s (.store 4 (.t 14) (.t 107))⟩,
    ⟨none, .s (.v 15 (.mov (.t 108)))⟩])
  (.seq (.region [⟨none, .s (.v 109 (.mov (.t 7)))⟩,
    ⟨none, .s (.v 110 (.len (.t 109)))⟩,
    ⟨none, .s (.v 111 (.load true 4 (.t 3)))⟩,
    ⟨none, .call (some 112) (.c (.func 25 [])) [(.t 111)]⟩,
    ⟨none, .s (.v 113 (.len (.t 112)))⟩,
    ⟨none, .s (.v 114 (.bin .eql false (.t 110) (.t 113)))⟩,
    ⟨none, .s (.v 115 (.mov (.t 114)))⟩,
    ⟨(some (115, true)), .s (.v 116 (.mov (.t 13)))⟩,
    ⟨(some (115, true)), .s (.v 117 (.notB (.t 116)))⟩,
    ⟨(some (115, true)), .s (.v 118 (.mov (.t 117)))⟩,
    ⟨(some (118, false)), .s (.v 119 (.mov (.t 15)))⟩,
    ⟨(some (118, false)), .s (.v 120 (.mov (.t 119)))⟩,
    ⟨(some (120, true)), .s (.v 121 (.load true 4 (.t 14)))⟩,
    ⟨(some (120, true)), .s (.v 122 (.load true 4 (.t 11)))⟩,
    ⟨(some (120, true)), .call (some 123) (.c (.func 15 [])) [(.t 121), (.t 122)]⟩,
    ⟨(some (118, false)), .s (.v 124 (.pick (.t 120) (.t 123) (.c (.bool false))))⟩,
    ⟨(some (115, true)), .s (.v 125 (.pick (.t 118) (.c (.bool true)) (.t 124)))⟩,
    ⟨none, .s (.v 126 (.pick (.t 115) (.t 125) (.c (.bool false))))⟩,
    ⟨none, .s (.v 127 (.mov (.t 126)))⟩,
    ⟨(some (127, true)), .s (.v 128 (.mov (.t 13)))⟩,
    ⟨(some (127, true)), .s (.v 129 (.load true 4 (.t 11)))⟩,
    ⟨(some (127, true)), .s (.v 130 (.load true 4 (.t 3)))⟩,
    ⟨(some (127, true)), .call (some 131) (.c (.func 13 [])) [(.t 129), (.t 130)]⟩,
    ⟨(some (127, true)), .s (.v 132 (.beq false (.t 128) (.t 131)))⟩,
    ⟨none, .s (.v 133 (.pick (.t 127) (.t 132) (.c (.bool false))))⟩,
    ⟨none, .s (.v 2 (.mov (.t 133)))⟩])
  .ret))))))))))))
def r_laws_FnMatching : List RV := [.tmp 2]

/-- spec.MakeUniverse -/
def c_spec_MakeUniverse : C :=
  (.seq (.region [⟨none, .s (.v 6 (.mov (.c (.slice 4 .nil []))))⟩])
  (.seq (.region [⟨none, .s (.v 7 (.mov (.t 0)))⟩,
    ⟨none, .s (.v 8 (.mov (.t 1)))⟩,
    ⟨none, .call (some 9) (.c (.func 50 [])) [(.t 7), (.t 8)]⟩,
    ⟨none, .s (.v 10 (.mov (.t 2)))⟩,
    ⟨none, .call (some 11) (.c (.func 49 [])) [(.t 9), (.t 10)]⟩,
    ⟨none, .s (.v 6 (.mov (.t 11)))⟩])
  .ret))
def r_spec_MakeUniverse : List RV := [.tmp 6]

/-- spec.MakeTerm -/
def c_spec_MakeTerm : C :=
  (.seq (.region [⟨none, .s (.alloc 8 none (.agg [.int .i64 0, .int .i64 0, .str [], .slice 4 .nil []]))⟩])
  (.seq (.region [⟨none, .s (.v 9 (.mov (.t 0)))⟩,
    ⟨none, .s (.v 10 (.mov (.t 1)))⟩,
    ⟨none, .call (some 11) (.c (.func 50 [])) [(.t 9), (.t 10)]⟩,
    ⟨none, .s (.v 12 (.mov (.t 2)))⟩,
    ⟨none, .s (.v 13 (.mov (.t 3)))⟩,
    ⟨none, .call (some 14) (.c (.func 51 [])) [(.t 11), (.t 12), (.t 13)]⟩,
    ⟨none, .s (.store 4 (.t 8) (.t 14))⟩])
  .ret))
def r_spec_MakeTerm : List RV := [.cell 8 true 4]

/-- spec.MakeValue -/
def c_spec_MakeValue : C :=
  (.seq (.region [⟨none, .s (.box 2 none (.t 0))⟩,
    ⟨none, .s (.alloc 4 none (.agg [.int .i64 0, .int .i64 0, .str [], .slice 4 .nil []]))⟩])
  (.seq (.region [⟨none, .s (.v 5 (.mov (.t 1)))⟩,
    ⟨none, .s (.v 6 (.load true 4 (.t 2)))⟩,
    ⟨none, .call (some 7) (.c (.func 53 [])) [(.t 5), (.t 6)]⟩,
    ⟨none, .call (some 8) (.c (.func 52 [])) [(.t 7)]⟩,
    ⟨none, .s (.store 4 (.t 4) (.t 8))⟩])
  .ret))
def r_spec_MakeValue : List RV := [.cell 4 true 4]

/-- impl.GroundInstances -/
def c_impl_GroundInstances : C :=
  (.seq (.region [⟨none, .s (.box 2 none (.t 0))⟩,
    ⟨none, .s (.v 4 (.mov (.c (.slice 4 .nil []))))⟩])
  (.seq (.seq (.region [⟨none, .s (.v 11 (.load true 4 (.t 2)))⟩,
    ⟨none, .call (some 12) (.c (.func 54 [])) [(.t 11)]⟩,
    ⟨none, .s (.v 13 (.notB (.t 12)))⟩,
    ⟨none, .s (.v 14 (.mov (.t 13)))⟩,
    ⟨(some (14, false)), .s (.v 15 (.mov (.t 1)))⟩,
    ⟨(some (14, false)), .call (some 16) (.c (.func 11 [])) [(.t 15)]⟩,
    ⟨(some (14, false)), .s (.v 17 (.notB (.t 16)))⟩,
    ⟨none, .s (.v 18 (.pick (.t 14) (.c (.bool true)) (.t 17)))⟩])
  (.cond (.t 18)
    (.seq (.region [⟨none, .s (.v 4 (.mov (.c (.slice 4 .nil []))))⟩])
    .ret)
    .skip))
  (.seq (.region [⟨none, .s (.v 19 (.load true 4 (.t 2)))⟩,
    ⟨none, .call (some 20) (.c (.func 25 [])) [(.t 19)]⟩,
    ⟨none, .s (.v 5 (.mov (.t 20)))⟩])
  (.seq (.seq (.region [⟨none, .s (.v 21 (.mov (.t 1)))⟩,
    ⟨none, .s (.v 22 (.len (.t 21)))⟩,
    ⟨none, .s (.v 23 (.mov (.t 5)))⟩,
    ⟨none, .s (.v 24 (.len (.t 23)))⟩,
    ⟨none, .call (some 25) (.c (.func 55 [])) [(.t 22), (.t 24)]⟩,
    ⟨none, .s (.v 26 (.bin .gtr false (.t 25) (.c (.int .i64 512))))⟩])
  (.cond (.t 26)
    (.seq (.region [⟨none, .s (.v 4 (.mov (.c (.slice 4 .nil []))))⟩])
    .ret)
    .skip))
  (.seq (.region [⟨none, .s (.bsl 27 4 26 [])⟩,
    ⟨none, .s (.v 6 (.mov (.t 27)))⟩])
  (.seq (.seq (.region [⟨none, .s (.v 28 (.mov (.t 5)))⟩,
    ⟨none, .s (.v 29 (.mov (.t 1)))⟩,
    ⟨none, .call (some 30) (.c (.func 56 [])) [(.t 28), (.t 29)]⟩,
    ⟨none, .s (.v 31 (.len (.t 30)))⟩,
    ⟨none, .s (.v 32 (.mov (.c (.int .i64 0))))⟩])
  (.block 0 
    (.loop 
      (.seq (.region [⟨none, .s (.v 33 (.bin .lss false (.t 32) (.t 31)))⟩])
      (.seq (.cond (.t 33)
        .skip
        (.exit 0))
      (.seq (.block 1 
        (.seq (.region [⟨none, .s (.v 34 (.iaddr 1 (.t 30) (.t 32)))⟩,
          ⟨none, .s (.v 35 (.load false 1 (.t 34)))⟩,
          ⟨none, .s (.v 8 (.mov (.t 35)))⟩])
        (.seq (.region [⟨none, .s (.v 37 (.mov (.t 8)))⟩,
          ⟨none, .s (.v 38 (.load true 4 (.t 2)))⟩,
          ⟨none, .call (some 39) (.c (.func 57 [])) [(.t 37), (.t 38)]⟩,
          ⟨none, .s (.v 36 (.mov (.t 39)))⟩,
          ⟨none, .s (.v 40 (.ext 0 (.t 36)))⟩,
          ⟨none, .s (.v 41 (.ext 1 (.t 36)))⟩,
          ⟨none, .s (.alloc 9 none (.agg [.int .i64 0, .int .i64 0, .str [], .slice 4 .nil []]))⟩,
          ⟨none, .s (.store 4 (.t 9) (.t 40))⟩,
          ⟨none, .s (.v 10 (.mov (.t 41)))⟩])
        (.seq (.seq (.region [⟨none, .s (.v 42 (.mov (.t 10)))⟩,
          ⟨none, .s (.v 43 (.notB (.t 42)))⟩])
        (.cond (.t 43)
          (.seq (.region [⟨none, .s (.v 4 (.mov (.c (.slice 4 .nil []))))⟩])
          .ret)
          .skip))
        (.region [⟨none, .s (.v 44 (.mov (.t 6)))⟩,
          ⟨none, .s (.v 45 (.load true 4 (.t 9)))⟩,
          ⟨none, .s (.bsl 46 4 26 [(.t 45)])⟩,
          ⟨none, .s (.app 47 4 26 (.t 44) (.t 46))⟩,
          ⟨none, .s (.v 6 (.mov (.t 47)))⟩])))))
      (.region [⟨none, .s (.v 48 (.bin .add false (.t 32) (.c (.int .i64 1))))⟩,
        ⟨none, .s (.v 32 (.mov (.t 48)))⟩])))))))
  (.seq (.region [⟨none, .s (.v 49 (.mov (.t 6)))⟩,
    ⟨none, .call (some 50) (.c (.func 58 [])) [(.t 49)]⟩,
    ⟨none, .s (.v 4 (.mov (.t 50)))⟩])
  .ret)))))))
def r_impl_GroundInstances : List RV := [.tmp 4]

/-- impl.UniverseOk -/
def c_impl_UniverseOk : C :=
  (.seq (.region [⟨none, .s (.v 2 (.mov (.c (.bool false))))⟩])
  (.seq (.seq (.region [⟨none, .s (.v 5 (.mov (.t 0)))⟩,
    ⟨none, .s (.v 6 (.len (.t 5)))⟩,
    ⟨none, .s (.v 7 (.bin .lss false (.t 6) (.c (.int .i64 1))))⟩,
    ⟨none, .s (.v 8 (.mov (.t 7)))⟩,
    ⟨(some (8, false)), .s (.v 9 (.mov (.t 0)))⟩,
    ⟨(some (8, false)), .s (.v 10 (.len (.t 9)))⟩,
    ⟨(some (8, false)), .s (.v 11 (.bin .gtr false (.t 10) (.c (.int .i64 8))))⟩,
    ⟨none, .s (.v 12 (.pick (.t 8) (.c (.bool true)) (.t 11)))⟩])
  (.cond (.t 12)
    (.seq (.region [⟨none, .s (.v 2 (.mov (.c (.bool false))))⟩])
    .ret)
    .skip))
  (.seq (.seq (.region [⟨none, .s (.v 13 (.mov (.t 0)))⟩,
    ⟨none, .s (.v 14 (.len (.t 13)))⟩,
    ⟨none, .s (.v 15 (.mov (.c (.int .i64 0))))⟩])
  (.block 0 
    (.loop 
      (.seq (.region [⟨none, .s (.v 16 (.bin .lss false (.t 15) (.t 14)))⟩])
      (.seq (.cond (.t 16)
        .skip
        (.exit 0))
      (.seq (.block 1 
        (.seq (.region [⟨none, .s (.v 17 (.mov (.t 15)))⟩,
          ⟨none, .s (.v 18 (.iaddr 4 (.t 13) (.t 15)))⟩,
          ⟨none, .s (.v 19 (.load true 4 (.t 18)))⟩,
          ⟨none, .s (.alloc 4 none (.agg [.int .i64 0, .int .i64 0, .str [], .slice 4 .nil []]))⟩,
          ⟨none, .s (.v 3 (.mov (.t 17)))⟩,
          ⟨none, .s (.store 4 (.t 4) (.t 19))⟩])
        (.seq (.drawn true 38 [⟨none, .s (.v 20 (.load true 4 (.t 4)))⟩,
          ⟨none, .call (some 21) (.c (.func 12 [])) [(.t 20)]⟩,
          ⟨none, .s (.v 22 (.notB (.t 21)))⟩,
          ⟨none, .s (.v 23 (.mov (.t 22)))⟩,
          ⟨(some (23, false)), .s (.v 24 (.mov (.t 3)))⟩,
          ⟨(some (23, false)), .s (.v 25 (.bin .gtr false (.t 24) (.c (.int .i64 0))))⟩,
          ⟨(some (23, false)), .s (.v 26 (.mov (.t 25)))⟩,
          ⟨(some (26, true)), .s (.v 27 (.mov (.t 0)))⟩,
          ⟨(some (26, true)), .s (.v 28 (.mov (.t 3)))⟩,
          ⟨(some (26, true)), .s (.v 29 (.bin .sub false (.t 28) (.c (.int .i64 1))))⟩,
          ⟨(some (26, true)), .s (.v 30 (.iaddr 4 (.t 27) (.t 29)))⟩,
          ⟨(some (26, true)), .s (.v 31 (.load true 4 (.t 30)))⟩,
          ⟨(some (26, true)), .s (.v 32 (.load true 4 (.t 4)))⟩,
          ⟨(some (26, true)), .call (some 33) (.c (.func 59 [])) [(.t 31), (.t 32)]⟩,
          ⟨(some (26, true)), .s (.v 34 (.bin .geq false (.t 33) (.c (.int .i64 0))))⟩,
          ⟨(some (23, false)), .s (.v 35 (.pick (.t 26) (.t 34) (.c (.bool false))))⟩,
          ⟨none, .s (.v 36 (.pick (.t 23) (.c (.bool true)) (.t 35)))⟩])
        (.cond (.t 36)
          (.seq (.region [⟨none, .s (.v 2 (.mov (.c (.bool false))))⟩])
          .ret)
          .skip))))
      (.region [⟨none, .s (.v 37 (.bin .add false (.t 15) (.c (.int .i64 1))))⟩,
        ⟨none, .s (.v 15 (.mov (.t 37)))⟩])))))))
  (.seq (.region [⟨none, .s (.v 2 (.mov (.c (.bool true))))⟩])
  .ret))))
def r_impl_UniverseOk : List RV := [.tmp 2]

/-- impl.IsGround -/
def c_impl_IsGround : C :=
  (.seq (.region [⟨none, .s (.box 1 none (.t 0))⟩,
    ⟨none, .s (.v 2 (.mov (.c (.bool false))))⟩])
  (.seq (.region [⟨none, .s (.v 3 (.load true 4 (.t 1)))⟩,
    ⟨none, .call (some 4) (.c (.func 54 [])) [(.t 3)]⟩,
    ⟨none, .s (.v 5 (.mov (.t 4)))⟩,
    ⟨(some (5, true)), .s (.v 6 (.load true 4 (.t 1)))⟩,
    ⟨(some (5, true)), .call (some 7) (.c (.func 60 [])) [(.t 6)]⟩,
    ⟨none, .s (.v 8 (.pick (.t 5) (.t 7) (.c (.bool false))))⟩,
    ⟨none, .s (.v 2 (.mov (.t 8)))⟩])
  .ret))
def r_impl_IsGround : List RV := [.tmp 2]

/-- impl.IsInstance -/
def c_impl_IsInstance : C :=
  (.seq (.region [⟨none, .s (.box 2 none (.t 0))⟩,
    ⟨none, .s (.box 3 none (.t 1))⟩,
    ⟨none, .s (.v 4 (.mov (.c (.bool false))))⟩])
  (.seq (.region [⟨none, .s (.mkmap 9 (some 301))⟩,
    ⟨none, .s (.v 5 (.mov (.t 9)))⟩])
  (.seq (.seq (.region [⟨none, .s (.v 10 (.load true 4 (.t 3)))⟩,
    ⟨none, .call (some 11) (.c (.func 54 [])) [(.t 10)]⟩,
    ⟨none, .s (.v 12 (.notB (.t 11)))⟩,
    ⟨none, .s (.v 13 (.mov (.t 12)))⟩,
    ⟨(some (13, false)), .s (.v 14 (.load true 4 (.t 2)))⟩,
    ⟨(some (13, false)), .call (some 15) (.c (.func 54 [])) [(.t 14)]⟩,
    ⟨(some (13, false)), .s (.v 16 (.notB (.t 15)))⟩,
    ⟨none, .s (.v 17 (.pick (.t 13) (.c (.bool true)) (.t 16)))⟩,
    ⟨none, .s (.v 18 (.mov (.t 17)))⟩,
    ⟨(some (18, false)), .s (.v 19 (.load true 4 (.t 3)))⟩,
    ⟨(some (18, false)), .s (.v 20 (.load true 4 (.t 2)))⟩,
    ⟨(some (18, false)), .s (.v 21 (.mov (.t 5)))⟩,
    ⟨(some (18, false)), .call (some 22) (.c (.func 61 [])) [(.t 19), (.t 20), (.t 21)]⟩,
    ⟨(some (18, false)), .s (.v 23 (.notB (.t 22)))⟩,
    ⟨none, .s (.v 24 (.pick (.t 18) (.c (.bool true)) (.t 23)))⟩])
  (.cond (.t 24)
    (.seq (.region [⟨none, .s (.v 4 (.mov (.c (.bool false))))⟩])
    .ret)
    .skip))
  (.seq (.region [⟨none, .s (.v 6 (.mov (.c (.int .i64 0))))⟩])
  (.seq (.seq (.region [⟨none, .s (.v 25 (.mov (.t 5)))⟩,
    ⟨none, .s (.range 26 none (.t 25))⟩])
  (.block 0 
    (.loop 
      (.seq (.region [⟨none, .next 27 (.t 26)⟩,
        ⟨none, .s (.v 28 (.ext 0 (.t 27)))⟩])
      (.seq (.cond (.t 28)
        .skip
        (.exit 0))
      (.block 1 
        (.seq (.region [⟨none, .s (.v 29 (.ment (.t 26)))⟩,
          ⟨none, .s (.v 30 (.ext 0 (.t 29)))⟩,
          ⟨none, .s (.v 31 (.ext 1 (.t 29)))⟩,
          ⟨none, .s (.alloc 8 none (.agg [.int .i64 0, .int .i64 0, .str [], .slice 4 .nil []]))⟩,
          ⟨none, .s (.v 7 (.mov (.t 30)))⟩,
          ⟨none, .s (.store 4 (.t 8) (.t 31))⟩])
        (.seq (.region [⟨none, .s (.v 32 (.faddr 0 false 1 (.t 8)))⟩,
          ⟨none, .s (.v 33 (.load false 1 (.t 32)))⟩,
          ⟨none, .s (.v 34 (.bin .neq false (.t 33) (.c (.int .i64 1))))⟩,
          ⟨none, .s (.v 35 (.mov (.t 34)))⟩,
          ⟨(some (35, false)), .s (.v 36 (.faddr 1 false 1 (.t 8)))⟩,
          ⟨(some (35, false)), .s (.v 37 (.load false 1 (.t 36)))⟩,
          ⟨(some (35, false)), .s (.v 38 (.mov (.t 7)))⟩,
          ⟨(some (35, false)), .s (.v 39 (.bin .neq false (.t 37) (.t 38)))⟩,
          ⟨none, .s (.v 40 (.pick (.t 35) (.c (.bool true)) (.t 39)))⟩])
        (.cond (.t 40)
          (.region [⟨none, .s (.v 41 (.mov (.t 6)))⟩,
            ⟨none, .s (.v 42 (.bin .add false (.t 41) (.c (.int .i64 1))))⟩,
            ⟨none, .s (.v 6 (.mov (.t 42)))⟩])
          .skip)))))))))
  (.seq (.region [⟨none, .s (.v 43 (.mov (.t 6)))⟩,
    ⟨none, .s (.v 44 (.bin .leq false (.t 43) (.c (.int .i64 400))))⟩,
    ⟨none, .s (.v 4 (.mov (.t 44)))⟩])
  .ret))))))
def r_impl_IsInstance : List RV := [.tmp 4]

/-- impl.CompareTerms -/
def c_impl_CompareTerms : C :=
  (.seq (.region [⟨none, .s (.box 2 none (.t 0))⟩,
    ⟨none, .s (.box 3 none (.t 1))⟩,
    ⟨none, .s (.v 4 (.mov (.c (.int .i64 0))))⟩])
  (.seq (.seq (.region [⟨none, .s (.v 5 (.load true 4 (.t 2)))⟩,
    ⟨none, .call (some 6) (.c (.func 54 [])) [(.t 5)]⟩,
    ⟨none, .s (.v 7 (.notB (.t 6)))⟩,
    ⟨none, .s (.v 8 (.mov (.t 7)))⟩,
    ⟨(some (8, false)), .s (.v 9 (.load true 4 (.t 3)))⟩,
    ⟨(some (8, false)), .call (some 10) (.c (.func 54 [])) [(.t 9)]⟩,
    ⟨(some (8, false)), .s (.v 11 (.notB (.t 10)))⟩,
    ⟨none, .s (.v 12 (.pick (.t 8) (.c (.bool true)) (.t 11)))⟩])
  (.cond (.t 12)
    (.seq (.region [⟨none, .s (.v 4 (.mov (.c (.int .i64 2))))⟩])
    .ret)
    .skip))
  (.seq (.region [⟨none, .s (.v 13 (.load true 4 (.t 2)))⟩,
    ⟨none, .s (.v 14 (.load true 4 (.t 3)))⟩,
    ⟨none, .call (some 15) (.c (.func 59 [])) [(.t 13), (.t 14)]⟩,
    ⟨none, .s (.v 4 (.mov (.t 15)))⟩])
  .ret)))
def r_impl_CompareTerms : List RV := [.tmp 4]

/-- laws.same -/
def c_laws_same : C :=
  (.seq (.region [⟨none, .s (.box 2 none (.t 0))⟩,
    ⟨none, .s (.box 3 none (.t 1))⟩,
    ⟨none, .s (.v 4 (.mov (.c (.bool false))))⟩])
  (.seq (.seq (.region [⟨none, .s (.v 7 (.faddr 0 false 1 (.t 2)))⟩,
    ⟨none, .s (.v 8 (.load false 1 (.t 7)))⟩,
    ⟨none, .s (.v 9 (.faddr 0 false 1 (.t 3)))⟩,
    ⟨none, .s (.v 10 (.load false 1 (.t 9)))⟩,
    ⟨none, .s (.v 11 (.bin .neq false (.t 8) (.t 10)))⟩,
    ⟨none, .s (.v 12 (.mov (.t 11)))⟩,
    ⟨(some (12, false)), .s (.v 13 (.faddr 1 false 1 (.t 2)))⟩,
    ⟨(some (12, false)), .s (.v 14 (.load false 1 (.t 13)))⟩,
    ⟨(some (12, false)), .s (.v 15 (.faddr 1 false 1 (.t 3)))⟩,
    ⟨(some (12, false)), .s (.v 16 (.load false 1 (.t 15)))⟩,
    ⟨(some (12, false)), .s (.v 17 (.bin .neq false (.t 14) (.t 16)))⟩,
    ⟨none, .s (.v 18 (.pick (.t 12) (.c (.bool true)) (.t 17)))⟩,
    ⟨none, .s (.v 19 (.mov (.t 18)))⟩,
    ⟨(some (19, false)), .s (.v 20 (.faddr 2 false 1 (.t 2)))⟩,
    ⟨(some (19, false)), .s (.v 21 (.load false 1 (.t 20)))⟩,
    ⟨(some (19, false)), .s (.v 22 (.faddr 2 false 1 (.t 3)))⟩,
    ⟨(some (19, false)), .s (.v 23 (.load false 1 (.t 22)))⟩,
    ⟨(some (19, false)), .s (.v 24 (.bin .neq false (.t 21) (.t 23)))⟩,
    ⟨none, .s (.v 25 (.pick (.t 19) (.c (.bool true)) (.t 24)))⟩,
    ⟨none, .s (.v 26 (.mov (.t 25)))⟩,
    ⟨(some (26, false)), .s (.v 27 (.faddr 3 false 1 (.t 2)))⟩,
    ⟨(some (26, false)), .s (.v 28 (.load false 1 (.t 27)))⟩,
    ⟨(some (26, false)), .s (.v 29 (.len (.t 28)))⟩,
    ⟨(some (26, false)), .s (.v 30 (.faddr 3 false 1 (.t 3)))⟩,
    ⟨(some (26, false)), .s (.v 31 (.load false 1 (.t 30)))⟩,
    ⟨(some (26, false)), .s (.v 32 (.len (.t 31)))⟩,
    ⟨(some (26, false)), .s (.v 33 (.bin .neq false (.t 29) (.t 32)))⟩,
    ⟨none, .s (.v 34 (.pick (.t 26) (.c (.bool true)) (.t 33)))⟩])
  (.cond (.t 34)
    (.seq (.region [⟨none, .s (.v 4 (.mov (.c (.bool false))))⟩])
    .ret)
    .skip))
  (.seq (.seq (.region [⟨none, .s (.v 35 (.faddr 3 false 1 (.t 2)))⟩,
    ⟨none, .s (.v 36 (.load false 1 (.t 35)))⟩,
    ⟨none, .s (.v 37 (.len (.t 36)))⟩,
    ⟨none, .s (.v 38 (.mov (.c (.int .i64 0))))⟩])
  (.block 0 
    (.loop 
      (.seq (.region [⟨none, .s (.v 39 (.bin .lss false (.t 38) (.t 37)))⟩])
      (.seq (.cond (.t 39)
        .skip
        (.exit 0))
      (.seq (.block 1 
        (.seq (.region [⟨none, .s (.v 40 (.mov (.t 38)))⟩,
          ⟨none, .s (.v 41 (.iaddr 4 (.t 36) (.t 38)))⟩,
          ⟨none, .s (.v 42 (.load true 4 (.t 41)))⟩,
          ⟨none, .s (.alloc 6 none (.agg [.int .i64 0, .int .i64 0, .str [], .slice 4 .nil []]))⟩,
          ⟨none, .s (.v 5 (.mov (.t 40)))⟩,
          ⟨none, .s (.store 4 (.t 6) (.t 42))⟩])
        (.seq (.drawn true 52 [⟨none, .s (.v 43 (.load true 4 (.t 6)))⟩,
          ⟨none, .s (.v 44 (.faddr 3 false 1 (.t 3)))⟩,
          ⟨none, .s (.v 45 (.load false 1 (.t 44)))⟩,
          ⟨none, .s (.v 46 (.mov (.t 5)))⟩,
          ⟨none, .s (.v 47 (.iaddr 4 (.t 45) (.t 46)))⟩,
          ⟨none, .s (.v 48 (.load true 4 (.t 47)))⟩,
          ⟨none, .call (some 49) (.c (.func 15 [])) [(.t 43), (.t 48)]⟩,
          ⟨none, .s (.v 50 (.notB (.t 49)))⟩])
        (.cond (.t 50)
          (.seq (.region [⟨none, .s (.v 4 (.mov (.c (.bool false))))⟩])
          .ret)
          .skip))))
      (.region [⟨none, .s (.v 51 (.bin .add false (.t 38) (.c (.int .i64 1))))⟩,
        ⟨none, .s (.v 38 (.mov (.t 51)))⟩])))))))
  (.seq (.region [⟨none, .s (.v 4 (.mov (.c (.bool true))))⟩])
  .ret))))
def r_laws_same : List RV := [.tmp 4]

/-- impl.SubtermsOf -/
def c_impl_SubtermsOf : C :=
  (.seq (.region [⟨none, .s (.v 2 (.mov (.c (.slice 4 .nil []))))⟩])
  (.seq (.seq (.region [⟨none, .s (.v 7 (.mov (.t 0)))⟩,
    ⟨none, .call (some 8) (.c (.func 62 [])) [(.t 7)]⟩,
    ⟨none, .s (.v 9 (.notB (.t 8)))⟩])
  (.cond (.t 9)
    (.seq (.region [⟨none, .s (.v 2 (.mov (.c (.slice 4 .nil []))))⟩])
    .ret)
    .skip))
  (.seq (.region [⟨none, .s (.bsl 10 4 26 [])⟩,
    ⟨none, .s (.alloc 3 none (.slice 4 .nil []))⟩,
    ⟨none, .s (.store 1 (.t 3) (.t 10))⟩])
  (.seq (.region [⟨none, .s (.alloc 4 none (.junk))⟩])
  (.seq (.region [⟨none, .s (.v 11 (.mkf 63 [(.t 3), (.t 4)]))⟩,
    ⟨none, .s (.store 1 (.t 4) (.t 11))⟩])
  (.seq (.seq (.region [⟨none, .s (.v 12 (.mov (.t 0)))⟩,
    ⟨none, .s (.v 13 (.len (.t 12)))⟩,
    ⟨none, .s (.v 14 (.mov (.c (.int .i64 0))))⟩])
  (.block 0 
    (.loop 
      (.seq (.region [⟨none, .s (.v 15 (.bin .lss false (.t 14) (.t 13)))⟩])
      (.seq (.cond (.t 15)
        .skip
        (.exit 0))
      (.seq (.block 1 
        (.seq (.region [⟨none, .s (.v 16 (.iaddr 4 (.t 12) (.t 14)))⟩,
          ⟨none, .s (.v 17 (.load true 4 (.t 16)))⟩,
          ⟨none, .s (.alloc 6 none (.agg [.int .i64 0, .int .i64 0, .str [], .slice 4 .nil []]))⟩,
          ⟨none, .s (.store 4 (.t 6) (.t 17))⟩])
        (.region [⟨none, .s (.v 18 (.load false 1 (.t 4)))⟩,
          ⟨none, .s (.v 19 (.load true 4 (.t 6)))⟩,
          ⟨none, .call (some 20) (.t 18) [(.t 19)]⟩])))
      (.region [⟨none, .s (.v 21 (.bin .add false (.t 14) (.c (.int .i64 1))))⟩,
        ⟨none, .s (.v 14 (.mov (.t 21)))⟩])))))))
  (.seq (.region [⟨none, .s (.v 22 (.load false 1 (.t 3)))⟩,
    ⟨none, .call (some 23) (.c (.func 58 [])) [(.t 22)]⟩,
    ⟨none, .s (.v 2 (.mov (.t 23)))⟩])
  .ret)))))))
def r_impl_SubtermsOf : List RV := [.tmp 2]

/-- laws.list -/
def c_laws_list : C :=
  (.seq (.region [⟨none, .s (.v 4 (.mov (.c (.bool false))))⟩])
  (.seq (.seq (.region [⟨none, .s (.v 7 (.mov (.t 0)))⟩,
    ⟨none, .s (.v 8 (.len (.t 7)))⟩,
    ⟨none, .s (.v 9 (.mov (.t 1)))⟩,
    ⟨none, .s (.v 10 (.len (.t 9)))⟩,
    ⟨none, .s (.v 11 (.bin .neq false (.t 8) (.t 10)))⟩])
  (.cond (.t 11)
    (.seq (.region [⟨none, .s (.v 4 (.mov (.c (.bool false))))⟩])
    .ret)
    .skip))
  (.seq (.seq (.region [⟨none, .s (.v 12 (.mov (.t 0)))⟩,
    ⟨none, .s (.v 13 (.len (.t 12)))⟩,
    ⟨none, .s (.v 14 (.mov (.c (.int .i64 0))))⟩])
  (.block 0 
    (.loop 
      (.seq (.region [⟨none, .s (.v 15 (.bin .lss false (.t 14) (.t 13)))⟩])
      (.seq (.cond (.t 15)
        .skip
        (.exit 0))
      (.seq (.block 1 
        (.seq (.region [⟨none, .s (.v 16 (.mov (.t 14)))⟩,
          ⟨none, .s (.v 17 (.iaddr 4 (.t 12) (.t 14)))⟩,
          ⟨none, .s (.v 18 (.load true 4 (.t 17)))⟩,
          ⟨none, .s (.alloc 6 none (.agg [.int .i64 0, .int .i64 0, .str [], .slice 4 .nil []]))⟩,
          ⟨none, .s (.v 5 (.mov (.t 16)))⟩,
          ⟨none, .s (.store 4 (.t 6) (.t 18))⟩])
        (.seq (.drawn true 27 [⟨none, .s (.v 19 (.load true 4 (.t 6)))⟩,
          ⟨none, .s (.v 20 (.mov (.t 1)))⟩,
          ⟨none, .s (.v 21 (.mov (.t 5)))⟩,
          ⟨none, .s (.v 22 (.iaddr 4 (.t 20) (.t 21)))⟩,
          ⟨none, .s (.v 23 (.load true 4 (.t 22)))⟩,
          ⟨none, .call (some 24) (.c (.func 15 [])) [(.t 19), (.t 23)]⟩,
          ⟨none, .s (.v 25 (.notB (.t 24)))⟩])
        (.cond (.t 25)
          (.seq (.region [⟨none, .s (.v 4 (.mov (.c (.bool false))))⟩])
          .ret)
          .skip))))
      (.region [⟨none, .s (.v 26 (.bin .add false (.t 14) (.c (.int .i64 1))))⟩,
        ⟨none, .s (.v 14 (.mov (.t 26)))⟩])))))))
  (.seq (.region [⟨none, .s (.v 4 (.mov (.c (.bool true))))⟩])
  .ret))))
def r_laws_list : List RV := [.tmp 4]

/-- impl.GroundTerms -/
def c_impl_GroundTerms : C :=
  (.seq (.region [⟨none, .s (.v 4 (.mov (.c (.slice 4 .nil []))))⟩])
  (.seq (.seq (.region [⟨none, .s (.v 15 (.mov (.t 0)))⟩,
    ⟨none, .call (some 16) (.c (.func 11 [])) [(.t 15)]⟩,
    ⟨none, .s (.v 17 (.notB (.t 16)))⟩,
    ⟨none, .s (.v 18 (.mov (.t 17)))⟩,
    ⟨(some (18, false)), .s (.v 19 (.mov (.t 1)))⟩,
    ⟨(some (18, false)), .s (.v 20 (.bin .lss false (.t 19) (.c (.int .i64 1))))⟩,
    ⟨none, .s (.v 21 (.pick (.t 18) (.c (.bool true)) (.t 20)))⟩,
    ⟨none, .s (.v 22 (.mov (.t 21)))⟩,
    ⟨(some (22, false)), .s (.v 23 (.mov (.t 1)))⟩,
    ⟨(some (22, false)), .s (.v 24 (.bin .gtr false (.t 23) (.c (.int .i64 5))))⟩,
    ⟨none, .s (.v 25 (.pick (.t 22) (.c (.bool true)) (.t 24)))⟩])
  (.cond (.t 25)
    (.seq (.region [⟨none, .s (.v 4 (.mov (.c (.slice 4 .nil []))))⟩])
    .ret)
    .skip))
  (.seq (.region [⟨none, .s (.mkmap 26 none)⟩,
    ⟨none, .s (.v 27 (.mov (.t 0)))⟩,
    ⟨none, .s (.mput false (.t 26) (.c (.int .i64 1)) (.t 27))⟩,
    ⟨none, .s (.v 28 (.mov (.t 26)))⟩,
    ⟨none, .s (.v 5 (.mov (.t 28)))⟩])
  (.seq (.region [⟨none, .s (.bsl 29 4 26 [])⟩,
    ⟨none, .s (.v 30 (.mov (.t 0)))⟩,
    ⟨none, .s (.app 31 4 26 (.t 29) (.t 30))⟩,
    ⟨none, .s (.v 6 (.mov (.t 31)))⟩])
  (.seq (.seq (.region [⟨none, .s (.v 7 (.mov (.c (.int .i64 3))))⟩])
  (.block 0 
    (.loop 
      (.seq (.seq (.region [⟨none, .s (.v 32 (.mov (.t 7)))⟩,
        ⟨none, .s (.v 33 (.mov (.t 1)))⟩,
        ⟨none, .s (.v 34 (.bin .leq false (.t 32) (.t 33)))⟩])
      (.cond (.t 34)
        .skip
        (.exit 0)))
      (.seq (.block 1 
        (.seq (.seq (.region [⟨none, .s (.v 8 (.mov (.c (.int .i64 1))))⟩])
        (.block 2 
          (.loop 
            (.seq (.seq (.region [⟨none, .s (.v 37 (.mov (.t 8)))⟩,
              ⟨none, .s (.v 38 (.mov (.t 7)))⟩,
              ⟨none, .s (.v 39 (.bin .sub false (.t 38) (.c (.int .i64 1))))⟩,
              ⟨none, .s (.v 40 (.bin .lss false (.t 37) (.t 39)))⟩])
            (.cond (.t 40)
              .skip
              (.exit 2)))
            (.seq (.block 3 
              (.seq (.region [⟨none, .s (.v 43 (.mov (.t 5)))⟩,
                ⟨none, .s (.v 44 (.mov (.t 8)))⟩,
                ⟨none, .s (.v 45 (.mget false (.slice 4 .nil []) false (.t 43) (.t 44)))⟩,
                ⟨none, .s (.v 46 (.len (.t 45)))⟩,
                ⟨none, .s (.v 47 (.mov (.c (.int .i64 0))))⟩])
              (.block 4 
                (.loop 
                  (.seq (.region [⟨none, .s (.v 48 (.bin .lss false (.t 47) (.t 46)))⟩])
                  (.seq (.cond (.t 48)
                    .skip
                    (.exit 4))
                  (.seq (.block 5 
                    (.seq (.region [⟨none, .s (.v 49 (.iaddr 4 (.t 45) (.t 47)))⟩,
                      ⟨none, .s (.v 50 (.load true 4 (.t 49)))⟩,
                      ⟨none, .s (.alloc 10 none (.agg [.int .i64 0, .int .i64 0, .str [], .slice 4 .nil []]))⟩,
                      ⟨none, .s (.store 4 (.t 10) (.t 50))⟩])
                    (.seq (.region [⟨none, .s (.v 51 (.mov (.t 5)))⟩,
                      ⟨none, .s (.v 52 (.mov (.t 7)))⟩,
                      ⟨none, .s (.v 53 (.bin .sub false (.t 52) (.c (.int .i64 1))))⟩,
                      ⟨none, .s (.v 54 (.mov (.t 8)))⟩,
                      ⟨none, .s (.v 55 (.bin .sub false (.t 53) (.t 54)))⟩,
                      ⟨none, .s (.v 56 (.mget false (.slice 4 .nil []) false (.t 51) (.t 55)))⟩,
                      ⟨none, .s (.v 57 (.len (.t 56)))⟩,
                      ⟨none, .s (.v 58 (.mov (.c (.int .i64 0))))⟩])
                    (.block 6 
                      (.loop 
                        (.seq (.region [⟨none, .s (.v 59 (.bin .lss false (.t 58) (.t 57)))⟩])
                        (.seq (.cond (.t 59)
                          .skip
                          (.exit 6))
                        (.seq (.block 7 
                          (.seq (.region [⟨none, .s (.v 60 (.iaddr 4 (.t 56) (.t 58)))⟩,
                            ⟨none, .s (.v 61 (.load true 4 (.t 60)))⟩,
                            ⟨none, .s (.alloc 12 none (.agg [.int .i64 0, .int .i64 0, .str [], .slice 4 .nil []]))⟩,
                            ⟨none, .s (.store 4 (.t 12) (.t 61))⟩])
                          (.seq (.region [⟨none, .s (.v 62 (.load true 4 (.t 10)))⟩,
                            ⟨none, .s (.v 63 (.load true 4 (.t 12)))⟩,
                            ⟨none, .call (some 64) (.c (.func 64 [])) [(.t 62), (.t 63)]⟩,
                            ⟨none, .s (.alloc 13 none (.agg [.int .i64 0, .int .i64 0, .str [], .slice 4 .nil []]))⟩,
                            ⟨none, .s (.store 4 (.t 13) (.t 64))⟩])
                          (.seq (.seq (.region [⟨none, .s (.v 65 (.load true 4 (.t 13)))⟩,
                            ⟨none, .call (some 66) (.c (.func 54 [])) [(.t 65)]⟩,
                            ⟨none, .s (.v 67 (.notB (.t 66)))⟩])
                          (.cond (.t 67)
                            (.seq (.region [⟨none, .s (.v 4 (.mov (.c (.slice 4 .nil []))))⟩])
                            .ret)
                            .skip))
                          (.region [⟨none, .s (.v 68 (.mov (.t 5)))⟩,
                            ⟨none, .s (.v 69 (.mov (.t 7)))⟩,
                            ⟨none, .s (.v 70 (.mov (.t 5)))⟩,
                            ⟨none, .s (.v 71 (.mov (.t 7)))⟩,
                            ⟨none, .s (.v 72 (.mget false (.slice 4 .nil []) false (.t 70) (.t 71)))⟩,
                            ⟨none, .s (.v 73 (.load true 4 (.t 13)))⟩,
                            ⟨none, .s (.bsl 74 4 26 [(.t 73)])⟩,
                            ⟨none, .s (.app 75 4 26 (.t 72) (.t 74))⟩,
                            ⟨none, .s (.mput false (.t 68) (.t 69) (.t 75))⟩])))))
                        (.region [⟨none, .s (.v 76 (.bin .add false (.t 58) (.c (.int .i64 1))))⟩,
                          ⟨none, .s (.v 58 (.mov (.t 76)))⟩])))))))))
                  (.region [⟨none, .s (.v 77 (.bin .add false (.t 47) (.c (.int .i64 1))))⟩,
                    ⟨none, .s (.v 47 (.mov (.t 77)))⟩]))))))))
            (.region [⟨none, .s (.v 41 (.mov (.t 8)))⟩,
              ⟨none, .s (.v 42 (.bin .add false (.t 41) (.c (.int .i64 2))))⟩,
              ⟨none, .s (.v 8 (.mov (.t 42)))⟩]))))))
        (.region [⟨none, .s (.v 78 (.mov (.t 6)))⟩,
          ⟨none, .s (.v 79 (.mov (.t 5)))⟩,
          ⟨none, .s (.v 80 (.mov (.t 7)))⟩,
          ⟨none, .s (.v 81 (.mget false (.slice 4 .nil []) false (.t 79) (.t 80)))⟩,
          ⟨none, .s (.app 82 4 26 (.t 78) (.t 81))⟩,
          ⟨none, .s (.v 6 (.mov (.t 82)))⟩])))
      (.region [⟨none, .s (.v 35 (.mov (.t 7)))⟩,
        ⟨none, .s (.v 36 (.bin .add false (.t 35) (.c (.int .i64 2))))⟩,
        ⟨none, .s (.v 7 (.mov (.t 36)))⟩]))))))
  (.seq (.region [⟨none, .s (.v 83 (.mov (.t 6)))⟩,
    ⟨none, .call (some 84) (.c (.func 58 [])) [(.t 83)]⟩,
    ⟨none, .s (.v 14 (.mov (.t 84)))⟩])
  (.seq (.seq (.region [⟨none, .s (.v 85 (.mov (.t 14)))⟩,
    ⟨none, .s (.v 86 (.len (.t 85)))⟩,
    ⟨none, .s (.v 87 (.bin .gtr false (.t 86) (.c (.int .i64 512))))⟩])
  (.cond (.t 87)
    (.seq (.region [⟨none, .s (.v 4 (.mov (.c (.slice 4 .nil []))))⟩])
    .ret)
    .skip))
  (.seq (.region [⟨none, .s (.v 88 (.mov (.t 14)))⟩,
    ⟨none, .s (.v 4 (.mov (.t 88)))⟩])
  .ret))))))))
def r_impl_GroundTerms : List RV := [.tmp 4]

/-- spec.MakeGround -/
def c_spec_MakeGround : C :=
  (.seq (.region [⟨none, .s (.v 6 (.mov (.c (.slice 5 .nil []))))⟩])
  (.seq (.region [⟨none, .s (.v 7 (.mov (.t 0)))⟩,
    ⟨none, .s (.v 8 (.mov (.t 1)))⟩,
    ⟨none, .call (some 9) (.c (.func 50 [])) [(.t 7), (.t 8)]⟩,
    ⟨none, .s (.v 10 (.mov (.t 2)))⟩,
    ⟨none, .call (some 11) (.c (.func 65 [])) [(.t 9), (.t 10)]⟩,
    ⟨none, .s (.v 6 (.mov (.t 11)))⟩])
  .ret))
def r_spec_MakeGround : List RV := [.tmp 6]

/-- impl.Instantiate -/
def c_impl_Instantiate : C :=
  (.seq (.region [⟨none, .s (.box 2 none (.t 0))⟩,
    ⟨none, .s (.alloc 4 none (.agg [.int .i64 0, .int .i64 0, .str [], .slice 4 .nil []]))⟩,
    ⟨none, .s (.v 5 (.mov (.c (.bool false))))⟩])
  (.seq (.seq (.region [⟨none, .s (.v 6 (.load true 4 (.t 2)))⟩,
    ⟨none, .call (some 7) (.c (.func 54 [])) [(.t 6)]⟩,
    ⟨none, .s (.v 8 (.notB (.t 7)))⟩,
    ⟨none, .s (.v 9 (.mov (.t 8)))⟩,
    ⟨(some (9, false)), .s (.v 10 (.mov (.t 1)))⟩,
    ⟨(some (9, false)), .call (some 11) (.c (.func 22 [])) [(.t 10)]⟩,
    ⟨(some (9, false)), .s (.v 12 (.notB (.t 11)))⟩,
    ⟨none, .s (.v 13 (.pick (.t 9) (.c (.bool true)) (.t 12)))⟩])
  (.cond (.t 13)
    (.seq (.region [⟨none, .s (.v 14 (.build [.int .i64 0, .int .i64 0, .str [], .slice 4 .nil []] []))⟩,
      ⟨none, .s (.store 4 (.t 4) (.t 14))⟩,
      ⟨none, .s (.v 5 (.mov (.c (.bool false))))⟩])
    .ret)
    .skip))
  (.seq (.region [⟨none, .s (.v 15 (.mov (.t 1)))⟩,
    ⟨none, .s (.v 16 (.load true 4 (.t 2)))⟩,
    ⟨none, .call (some 17) (.c (.func 57 [])) [(.t 15), (.t 16)]⟩,
    ⟨none, .s (.v 18 (.ext 0 (.t 17)))⟩,
    ⟨none, .s (.v 19 (.ext 1 (.t 17)))⟩,
    ⟨none, .s (.store 4 (.t 4) (.t 18))⟩,
    ⟨none, .s (.v 5 (.mov (.t 19)))⟩])
  .ret)))
def r_impl_Instantiate : List RV := [.cell 4 true 4, .tmp 5]

/-- impl.MatchTerm -/
def c_impl_MatchTerm : C :=
  (.seq (.region [⟨none, .s (.box 2 none (.t 0))⟩,
    ⟨none, .s (.box 3 none (.t 1))⟩,
    ⟨none, .s (.v 4 (.mov (.c (.slice 5 .nil []))))⟩,
    ⟨none, .s (.v 5 (.mov (.c (.bool false))))⟩])
  (.seq (.region [⟨none, .s (.mkmap 10 (some 302))⟩,
    ⟨none, .s (.v 6 (.mov (.t 10)))⟩])
  (.seq (.seq (.region [⟨none, .s (.v 11 (.load true 4 (.t 2)))⟩,
    ⟨none, .call (some 12) (.c (.func 54 [])) [(.t 11)]⟩,
    ⟨none, .s (.v 13 (.notB (.t 12)))⟩,
    ⟨none, .s (.v 14 (.mov (.t 13)))⟩,
    ⟨(some (14, false)), .s (.v 15 (.load true 4 (.t 3)))⟩,
    ⟨(some (14, false)), .call (some 16) (.c (.func 54 [])) [(.t 15)]⟩,
    ⟨(some (14, false)), .s (.v 17 (.notB (.t 16)))⟩,
    ⟨none, .s (.v 18 (.pick (.t 14) (.c (.bool true)) (.t 17)))⟩,
    ⟨none, .s (.v 19 (.mov (.t 18)))⟩,
    ⟨(some (19, false)), .s (.v 20 (.load true 4 (.t 2)))⟩,
    ⟨(some (19, false)), .s (.v 21 (.load true 4 (.t 3)))⟩,
    ⟨(some (19, false)), .s (.v 22 (.mov (.t 6)))⟩,
    ⟨(some (19, false)), .call (some 23) (.c (.func 61 [])) [(.t 20), (.t 21), (.t 22)]⟩,
    ⟨(some (19, false)), .s (.v 24 (.notB (.t 23)))⟩,
    ⟨none, .s (.v 25 (.pick (.t 19) (.c (.bool true)) (.t 24)))⟩,
    ⟨none, .s (.v 26 (.mov (.t 25)))⟩,
    ⟨(some (26, false)), .s (.v 27 (.mov (.t 6)))⟩,
    ⟨(some (26, false)), .s (.v 28 (.mlen (.t 27)))⟩,
    ⟨(some (26, false)), .s (.v 29 (.bin .gtr false (.t 28) (.c (.int .i64 400))))⟩,
    ⟨none, .s (.v 30 (.pick (.t 26) (.c (.bool true)) (.t 29)))⟩])
  (.cond (.t 30)
    (.seq (.region [⟨none, .s (.v 4 (.mov (.c (.slice 5 .nil []))))⟩,
      ⟨none, .s (.v 5 (.mov (.c (.bool false))))⟩])
    .ret)
    .skip))
  (.seq (.region [⟨none, .s (.bslm 31 (some 303) 5 30 [])⟩,
    ⟨none, .s (.v 7 (.mov (.t 31)))⟩])
  (.seq (.seq (.region [⟨none, .s (.v 32 (.mov (.t 6)))⟩,
    ⟨none, .s (.range 33 none (.t 32))⟩])
  (.block 0 
    (.loop 
      (.seq (.region [⟨none, .next 34 (.t 33)⟩,
        ⟨none, .s (.v 35 (.ext 0 (.t 34)))⟩])
      (.seq (.cond (.t 35)
        .skip
        (.exit 0))
      (.block 1 
        (.seq (.region [⟨none, .s (.v 36 (.ment (.t 33)))⟩,
          ⟨none, .s (.v 37 (.ext 0 (.t 36)))⟩,
          ⟨none, .s (.v 38 (.ext 1 (.t 36)))⟩,
          ⟨none, .s (.alloc 9 none (.agg [.int .i64 0, .int .i64 0, .str [], .slice 4 .nil []]))⟩,
          ⟨none, .s (.v 8 (.mov (.t 37)))⟩,
          ⟨none, .s (.store 4 (.t 9) (.t 38))⟩])
        (.region [⟨none, .s (.v 39 (.mov (.t 7)))⟩,
          ⟨none, .s (.v 40 (.mov (.t 8)))⟩,
          ⟨none, .s (.v 41 (.load true 4 (.t 9)))⟩,
          ⟨none, .call (some 42) (.c (.func 66 [])) [(.t 41)]⟩,
          ⟨none, .s (.v 43 (.build [.int .i64 0, .int .i64 0, .int .i64 0, .str [], .slice 4 .nil []] [(0, 1, (.t 40)), (1, 4, (.t 42))]))⟩,
          ⟨none, .s (.bsl 44 5 30 [(.t 43)])⟩,
          ⟨none, .s (.appm 45 none 5 30 (.t 39) (.t 44))⟩,
          ⟨none, .s (.v 7 (.mov (.t 45)))⟩]))))))))
  (.seq (.region [⟨none, .s (.v 46 (.mov (.t 7)))⟩,
    ⟨none, .call (some 47) (.c (.func 67 [])) [(.t 46)]⟩])
  (.seq (.pub 7 (.region [⟨none, .s (.v 48 (.mov (.t 7)))⟩,
    ⟨none, .s (.v 4 (.mov (.t 48)))⟩,
    ⟨none, .s (.v 5 (.mov (.c (.bool true))))⟩]))
  .ret)))))))
def r_impl_MatchTerm : List RV := [.tmp 4, .tmp 5]

/-- impl.ValuesOk -/
def c_impl_ValuesOk : C :=
  (.seq (.region [⟨none, .s (.v 2 (.mov (.c (.bool false))))⟩])
  (.seq (.seq (.region [⟨none, .s (.v 5 (.mov (.t 0)))⟩,
    ⟨none, .s (.v 6 (.len (.t 5)))⟩,
    ⟨none, .s (.v 7 (.bin .gtr false (.t 6) (.c (.int .i64 400))))⟩])
  (.cond (.t 7)
    (.seq (.region [⟨none, .s (.v 2 (.mov (.c (.bool false))))⟩])
    .ret)
    .skip))
  (.seq (.seq (.region [⟨none, .s (.v 8 (.mov (.t 0)))⟩,
    ⟨none, .s (.v 9 (.len (.t 8)))⟩,
    ⟨none, .s (.v 10 (.mov (.c (.int .i64 0))))⟩])
  (.block 0 
    (.loop 
      (.seq (.region [⟨none, .s (.v 11 (.bin .lss false (.t 10) (.t 9)))⟩])
      (.seq (.cond (.t 11)
        .skip
        (.exit 0))
      (.seq (.block 1 
        (.seq (.region [⟨none, .s (.v 12 (.mov (.t 10)))⟩,
          ⟨none, .s (.v 13 (.iaddr 5 (.t 8) (.t 10)))⟩,
          ⟨none, .s (.v 14 (.load true 5 (.t 13)))⟩,
          ⟨none, .s (.alloc 4 none (.agg [.int .i64 0, .int .i64 0, .int .i64 0, .str [], .slice 4 .nil []]))⟩,
          ⟨none, .s (.v 3 (.mov (.t 12)))⟩,
          ⟨none, .s (.store 5 (.t 4) (.t 14))⟩])
        (.seq (.drawn true 45 [⟨none, .s (.v 15 (.faddr 0 false 1 (.t 4)))⟩,
          ⟨none, .s (.v 16 (.load false 1 (.t 15)))⟩,
          ⟨none, .s (.v 17 (.bin .lss false (.t 16) (.c (.int .i64 0))))⟩,
          ⟨none, .s (.v 18 (.mov (.t 17)))⟩,
          ⟨(some (18, false)), .s (.v 19 (.faddr 0 false 1 (.t 4)))⟩,
          ⟨(some (18, false)), .s (.v 20 (.load false 1 (.t 19)))⟩,
          ⟨(some (18, false)), .s (.v 21 (.bin .gtr false (.t 20) (.c (.int .i64 100000))))⟩,
          ⟨none, .s (.v 22 (.pick (.t 18) (.c (.bool true)) (.t 21)))⟩,
          ⟨none, .s (.v 23 (.mov (.t 22)))⟩,
          ⟨(some (23, false)), .s (.v 24 (.mov (.t 3)))⟩,
          ⟨(some (23, false)), .s (.v 25 (.bin .gtr false (.t 24) (.c (.int .i64 0))))⟩,
          ⟨(some (23, false)), .s (.v 26 (.mov (.t 25)))⟩,
          ⟨(some (26, true)), .s (.v 27 (.mov (.t 0)))⟩,
          ⟨(some (26, true)), .s (.v 28 (.mov (.t 3)))⟩,
          ⟨(some (26, true)), .s (.v 29 (.bin .sub false (.t 28) (.c (.int .i64 1))))⟩,
          ⟨(some (26, true)), .s (.v 30 (.iaddr 5 (.t 27) (.t 29)))⟩,
          ⟨(some (26, true)), .s (.v 31 (.faddr 0 false 1 (.t 30)))⟩,
          ⟨(some (26, true)), .s (.v 32 (.load false 1 (.t 31)))⟩,
          ⟨(some (26, true)), .s (.v 33 (.faddr 0 false 1 (.t 4)))⟩,
          ⟨(some (26, true)), .s (.v 34 (.load false 1 (.t 33)))⟩,
          ⟨(some (26, true)), .s (.v 35 (.bin .geq false (.t 32) (.t 34)))⟩,
          ⟨(some (23, false)), .s (.v 36 (.pick (.t 26) (.t 35) (.c (.bool false))))⟩,
          ⟨none, .s (.v 37 (.pick (.t 23) (.c (.bool true)) (.t 36)))⟩,
          ⟨none, .s (.v 38 (.mov (.t 37)))⟩,
          ⟨(some (38, false)), .s (.v 39 (.faddr 1 true 4 (.t 4)))⟩,
          ⟨(some (38, false)), .s (.v 40 (.load true 4 (.t 39)))⟩,
          ⟨(some (38, false)), .call (some 41) (.c (.func 54 [])) [(.t 40)]⟩,
          ⟨(some (38, false)), .s (.v 42 (.notB (.t 41)))⟩,
          ⟨none, .s (.v 43 (.pick (.t 38) (.c (.bool true)) (.t 42)))⟩])
        (.cond (.t 43)
          (.seq (.region [⟨none, .s (.v 2 (.mov (.c (.bool false))))⟩])
          .ret)
          .skip))))
      (.region [⟨none, .s (.v 44 (.bin .add false (.t 10) (.c (.int .i64 1))))⟩,
        ⟨none, .s (.v 10 (.mov (.t 44)))⟩])))))))
  (.seq (.region [⟨none, .s (.v 2 (.mov (.c (.bool true))))⟩])
  .ret))))
def r_impl_ValuesOk : List RV := [.tmp 2]

/-- impl.OccursIn -/
def c_impl_OccursIn : C :=
  (.seq (.region [⟨none, .s (.box 3 none (.t 1))⟩,
    ⟨none, .s (.v 4 (.mov (.c (.bool false))))⟩])
  (.seq (.region [⟨none, .s (.v 5 (.load true 4 (.t 3)))⟩,
    ⟨none, .call (some 6) (.c (.func 54 [])) [(.t 5)]⟩,
    ⟨none, .s (.v 7 (.mov (.t 6)))⟩,
    ⟨(some (7, true)), .s (.v 8 (.mov (.t 0)))⟩,
    ⟨(some (7, true)), .s (.v 9 (.load true 4 (.t 3)))⟩,
    ⟨(some (7, true)), .call (some 10) (.c (.func 68 [])) [(.t 8), (.t 9)]⟩,
    ⟨none, .s (.v 11 (.pick (.t 7) (.t 10) (.c (.bool false))))⟩,
    ⟨none, .s (.v 4 (.mov (.t 11)))⟩])
  .ret))
def r_impl_OccursIn : List RV := [.tmp 4]

/-- spec.MakeAlike -/
def c_spec_MakeAlike : C :=
  (.seq (.region [⟨none, .s (.box 6 none (.t 2))⟩,
    ⟨none, .s (.alloc 8 none (.agg [.int .i64 0, .int .i64 0, .str [], .slice 4 .nil []]))⟩])
  (.seq (.drawnW [401] 15 [⟨none, .s (.v 9 (.mov (.t 0)))⟩,
    ⟨none, .s (.v 10 (.mov (.t 1)))⟩,
    ⟨none, .call (some 11) (.c (.func 50 [])) [(.t 9), (.t 10)]⟩,
    ⟨none, .s (.v 12 (.load true 4 (.t 6)))⟩,
    ⟨none, .s (.v 13 (.mov (.t 3)))⟩,
    ⟨none, .call (some 14) (.c (.func 69 [])) [(.t 11), (.t 12), (.t 13)]⟩,
    ⟨none, .s (.store 4 (.t 8) (.t 14))⟩])
  .ret))
def r_spec_MakeAlike : List RV := [.cell 8 true 4]

/-- impl.TermVars -/
def c_impl_TermVars : C :=
  (.seq (.region [⟨none, .s (.box 1 none (.t 0))⟩,
    ⟨none, .s (.v 2 (.mov (.c (.slice 1 .nil []))))⟩])
  (.seq (.seq (.region [⟨none, .s (.v 4 (.load true 4 (.t 1)))⟩,
    ⟨none, .call (some 5) (.c (.func 54 [])) [(.t 4)]⟩,
    ⟨none, .s (.v 6 (.notB (.t 5)))⟩])
  (.cond (.t 6)
    (.seq (.region [⟨none, .s (.v 2 (.mov (.c (.slice 1 .nil []))))⟩])
    .ret)
    .skip))
  (.seq (.region [⟨none, .s (.mkmap 7 (some 304))⟩,
    ⟨none, .s (.alloc 3 (some 305) (.junk))⟩,
    ⟨none, .s (.store 1 (.t 3) (.t 7))⟩])
  (.seq (.region [⟨none, .s (.v 8 (.load true 4 (.t 1)))⟩,
    ⟨none, .s (.v 9 (.mkf 71 [(.t 3)]))⟩,
    ⟨none, .call (some 10) (.c (.func 70 [])) [(.t 8), (.t 9)]⟩])
  (.seq (.region [⟨none, .s (.v 11 (.load false 1 (.t 3)))⟩,
    ⟨none, .call (some 12) (.c (.func 72 [])) [(.t 11)]⟩,
    ⟨none, .s (.v 2 (.mov (.t 12)))⟩])
  .ret)))))
def r_impl_TermVars : List RV := [.tmp 2]

/-- spec.l08Universe -/
def c_spec_l08Universe : C :=
  (.seq (.region [⟨none, .s (.v 4 (.mov (.c (.slice 4 .nil []))))⟩])
  (.seq (.region [⟨none, .s (.bsl 7 4 26 [])⟩,
    ⟨none, .s (.v 5 (.mov (.t 7)))⟩])
  (.seq (.seq (.region [⟨none, .s (.v 8 (.mov (.t 0)))⟩,
    ⟨none, .s (.v 9 (.mov (.t 1)))⟩,
    ⟨none, .call (some 10) (.c (.func 101 [])) [(.t 8), (.t 9)]⟩,
    ⟨none, .s (.v 11 (.bin .add false (.c (.int .i64 1)) (.t 10)))⟩,
    ⟨none, .s (.v 6 (.mov (.t 11)))⟩])
  (.block 0 
    (.loop 
      (.seq (.seq (.region [⟨none, .s (.v 12 (.mov (.t 6)))⟩,
        ⟨none, .s (.v 13 (.bin .gtr false (.t 12) (.c (.int .i64 0))))⟩])
      (.cond (.t 13)
        .skip
        (.exit 0)))
      (.seq (.block 1 
        (.region [⟨none, .s (.v 16 (.mov (.t 5)))⟩,
          ⟨none, .s (.v 17 (.mov (.t 0)))⟩,
          ⟨none, .s (.v 18 (.mov (.t 0)))⟩,
          ⟨none, .call (some 19) (.c (.func 101 [])) [(.t 18), (.c (.int .i64 2))]⟩,
          ⟨none, .s (.v 20 (.bin .mul false (.c (.int .i64 2)) (.t 19)))⟩,
          ⟨none, .s (.v 21 (.bin .add false (.c (.int .i64 1)) (.t 20)))⟩,
          ⟨none, .call (some 22) (.c (.func 51 [])) [(.t 17), (.t 21), (.c (.int .i64 0))]⟩,
          ⟨none, .call (some 23) (.c (.func 79 [])) [(.t 16), (.t 22)]⟩,
          ⟨none, .s (.v 5 (.mov (.t 23)))⟩]))
      (.region [⟨none, .s (.v 14 (.mov (.t 6)))⟩,
        ⟨none, .s (.v 15 (.bin .sub false (.t 14) (.c (.int .i64 1))))⟩,
        ⟨none, .s (.v 6 (.mov (.t 15)))⟩]))))))
  (.seq (.region [⟨none, .s (.v 24 (.mov (.t 5)))⟩,
    ⟨none, .s (.v 4 (.mov (.t 24)))⟩])
  .ret))))
def r_spec_l08Universe : List RV := [.tmp 4]

/-- spec.l43New -/
def c_spec_l43New : C :=
  (.seq (.region [⟨none, .s (.v 4 (.mov (.c (.nilp))))⟩])
  (.seq (.region [⟨none, .s (.v 7 (.mov (.t 0)))⟩,
    ⟨none, .call (some 8) (.c (.func 102 [])) [(.t 7)]⟩,
    ⟨none, .s (.v 5 (.mov (.t 8)))⟩])
  (.seq (.seq (.region [⟨none, .s (.v 6 (.mov (.c (.int .i64 0))))⟩])
  (.block 0 
    (.loop 
      (.seq (.seq (.region [⟨none, .s (.v 9 (.mov (.t 6)))⟩,
        ⟨none, .s (.v 10 (.mov (.t 1)))⟩,
        ⟨none, .s (.v 11 (.bin .lss false (.t 9) (.t 10)))⟩])
      (.cond (.t 11)
        .skip
        (.exit 0)))
      (.seq (.block 1 
        (.region [⟨none, .s (.v 14 (.mov (.t 5)))⟩,
          ⟨none, .call (some 15) (.c (.func 103 [])) [(.t 14)]⟩]))
      (.region [⟨none, .s (.v 12 (.mov (.t 6)))⟩,
        ⟨none, .s (.v 13 (.bin .add false (.t 12) (.c (.int .i64 1))))⟩,
        ⟨none, .s (.v 6 (.mov (.t 13)))⟩]))))))
  (.seq (.region [⟨none, .s (.v 16 (.mov (.t 5)))⟩,
    ⟨none, .s (.v 4 (.mov (.t 16)))⟩])
  .ret))))
def r_spec_l43New : List RV := [.tmp 4]

/-- spec.l02Draw -/
def c_spec_l02Draw : C :=
  (.seq (.region [⟨none, .s (.alloc 6 none (.agg [.int .i64 0, .int .i64 0, .str [], .slice 4 .nil []]))⟩])
  (.seq (.region [⟨none, .s (.v 9 (.mov (.t 0)))⟩,
    ⟨none, .call (some 10) (.c (.func 101 [])) [(.t 9), (.c (.int .i64 8))]⟩,
    ⟨none, .s (.v 7 (.mov (.t 10)))⟩])
  (.seq (.seq (.region [⟨none, .s (.v 11 (.mov (.t 1)))⟩,
    ⟨none, .s (.v 12 (.bin .gtr false (.t 11) (.c (.int .i64 2))))⟩,
    ⟨none, .s (.v 13 (.mov (.t 12)))⟩,
    ⟨(some (13, true)), .s (.v 14 (.mov (.t 7)))⟩,
    ⟨(some (13, true)), .s (.v 15 (.bin .geq false (.t 14) (.c (.int .i64 3))))⟩,
    ⟨none, .s (.v 16 (.pick (.t 13) (.t 15) (.c (.bool false))))⟩])
  (.cond (.t 16)
    (.seq (.region [⟨none, .s (.v 17 (.mov (.t 0)))⟩,
      ⟨none, .s (.v 18 (.mov (.t 1)))⟩,
      ⟨none, .s (.v 19 (.bin .quo false (.t 18) (.c (.int .i64 2))))⟩,
      ⟨none, .s (.v 20 (.mov (.t 2)))⟩,
      ⟨none, .call (some 21) (.c (.func 51 [])) [(.t 17), (.t 19), (.t 20)]⟩,
      ⟨none, .s (.alloc 8 none (.agg [.int .i64 0, .int .i64 0, .str [], .slice 4 .nil []]))⟩,
      ⟨none, .s (.store 4 (.t 8) (.t 21))⟩])
    (.seq (.drawn false 42 [⟨none, .s (.v 22 (.load true 4 (.t 8)))⟩,
      ⟨none, .s (.v 23 (.mov (.t 0)))⟩,
      ⟨none, .s (.v 24 (.mov (.t 1)))⟩,
      ⟨none, .s (.v 25 (.bin .quo false (.t 24) (.c (.int .i64 2))))⟩,
      ⟨none, .s (.v 26 (.mov (.t 2)))⟩,
      ⟨none, .call (some 27) (.c (.func 51 [])) [(.t 23), (.t 25), (.t 26)]⟩,
      ⟨none, .call (some 28) (.c (.func 104 [])) [(.t 22), (.t 27)]⟩,
      ⟨none, .s (.store 4 (.t 6) (.t 28))⟩])
    .ret))
    .skip))
  (.seq (.seq (.region [⟨none, .s (.v 29 (.mov (.t 2)))⟩,
    ⟨none, .s (.v 30 (.bin .gtr false (.t 29) (.c (.int .i64 0))))⟩,
    ⟨none, .s (.v 31 (.mov (.t 30)))⟩,
    ⟨(some (31, true)), .s (.v 32 (.mov (.t 7)))⟩,
    ⟨(some (31, true)), .s (.v 33 (.bin .rem false (.t 32) (.c (.int .i64 2))))⟩,
    ⟨(some (31, true)), .s (.v 34 (.bin .eql false (.t 33) (.c (.int .i64 0))))⟩,
    ⟨none, .s (.v 35 (.pick (.t 31) (.t 34) (.c (.bool false))))⟩])
  (.cond (.t 35)
    (.seq (.region [⟨none, .s (.v 36 (.mov (.t 0)))⟩,
      ⟨none, .s (.v 37 (.mov (.t 2)))⟩,
      ⟨none, .call (some 38) (.c (.func 101 [])) [(.t 36), (.t 37)]⟩,
      ⟨none, .call (some 39) (.c (.func 105 [])) [(.t 38)]⟩,
      ⟨none, .s (.store 4 (.t 6) (.t 39))⟩])
    .ret)
    .skip))
  (.seq (.region [⟨none, .s (.v 40 (.mov (.t 0)))⟩,
    ⟨none, .call (some 41) (.c (.func 106 [])) [(.t 40)]⟩,
    ⟨none, .s (.store 4 (.t 6) (.t 41))⟩])
  .ret)))))
def r_spec_l02Draw : List RV := [.cell 6 true 4]

/-- spec.l02Copy -/
def c_spec_l02Copy : C :=
  (.seq (.region [⟨none, .s (.box 1 none (.t 0))⟩,
    ⟨none, .s (.alloc 2 none (.agg [.int .i64 0, .int .i64 0, .str [], .slice 4 .nil []]))⟩])
  (.seq (.region [⟨none, .s (.v 6 (.faddr 0 false 1 (.t 1)))⟩,
    ⟨none, .s (.v 7 (.load false 1 (.t 6)))⟩,
    ⟨none, .s (.v 8 (.faddr 1 false 1 (.t 1)))⟩,
    ⟨none, .s (.v 9 (.load false 1 (.t 8)))⟩,
    ⟨none, .s (.v 10 (.faddr 2 false 1 (.t 1)))⟩,
    ⟨none, .s (.v 11 (.load false 1 (.t 10)))⟩,
    ⟨none, .s (.v 12 (.build [.int .i64 0, .int .i64 0, .str [], .slice 4 .nil []] [(0, 1, (.t 7)), (1, 1, (.t 9)), (2, 1, (.t 11))]))⟩,
    ⟨none, .s (.alloc 3 none (.agg [.int .i64 0, .int .i64 0, .str [], .slice 4 .nil []]))⟩,
    ⟨none, .s (.store 4 (.t 3) (.t 12))⟩])
  (.seq (.seq (.region [⟨none, .s (.v 13 (.faddr 3 false 1 (.t 1)))⟩,
    ⟨none, .s (.v 14 (.load false 1 (.t 13)))⟩,
    ⟨none, .s (.v 15 (.len (.t 14)))⟩,
    ⟨none, .s (.v 16 (.mov (.c (.int .i64 0))))⟩])
  (.block 0 
    (.loop 
      (.seq (.region [⟨none, .s (.v 17 (.bin .lss false (.t 16) (.t 15)))⟩])
      (.seq (.cond (.t 17)
        .skip
        (.exit 0))
      (.seq (.block 1 
        (.seq (.region [⟨none, .s (.v 18 (.iaddr 4 (.t 14) (.t 16)))⟩,
          ⟨none, .s (.v 19 (.load true 4 (.t 18)))⟩,
          ⟨none, .s (.alloc 5 none (.agg [.int .i64 0, .int .i64 0, .str [], .slice 4 .nil []]))⟩,
          ⟨none, .s (.store 4 (.t 5) (.t 19))⟩])
        (.drawn true 29 [⟨none, .s (.v 20 (.faddr 3 false 1 (.t 3)))⟩,
          ⟨none, .s (.v 21 (.load false 1 (.t 20)))⟩,
          ⟨none, .s (.v 22 (.load true 4 (.t 5)))⟩,
          ⟨none, .call (some 23) (.c (.func 52 [])) [(.t 22)]⟩,
          ⟨none, .s (.bsl 24 4 26 [(.t 23)])⟩,
          ⟨none, .s (.app 25 4 26 (.t 21) (.t 24))⟩,
          ⟨none, .s (.v 26 (.faddr 3 false 1 (.t 3)))⟩,
          ⟨none, .s (.store 1 (.t 26) (.t 25))⟩])))
      (.region [⟨none, .s (.v 27 (.bin .add false (.t 16) (.c (.int .i64 1))))⟩,
        ⟨none, .s (.v 16 (.mov (.t 27)))⟩])))))))
  (.seq (.region [⟨none, .s (.v 28 (.load true 4 (.t 3)))⟩,
    ⟨none, .s (.store 4 (.t 2) (.t 28))⟩])
  .ret))))
def r_spec_l02Copy : List RV := [.cell 2 true 4]

/-- spec.l04Put -/
def c_spec_l04Put : C :=
  (.seq (.region [⟨none, .s (.box 3 none (.t 1))⟩,
    ⟨none, .s (.alloc 4 none (.agg [.int .i64 0, .int .i64 0, .str [], .slice 4 .nil []]))⟩])
  (.seq (.seq (.region [⟨none, .s (.v 7 (.faddr 0 false 1 (.t 3)))⟩,
    ⟨none, .s (.v 8 (.load false 1 (.t 7)))⟩,
    ⟨none, .s (.v 9 (.bin .eql false (.t 8) (.c (.int .i64 1))))⟩])
  (.cond (.t 9)
    (.seq (.region [⟨none, .s (.v 11 (.mov (.t 0)))⟩,
      ⟨none, .s (.v 12 (.faddr 1 false 1 (.t 3)))⟩,
      ⟨none, .s (.v 13 (.load false 1 (.t 12)))⟩,
      ⟨none, .call (some 14) (.c (.func 107 [])) [(.t 11), (.t 13)]⟩,
      ⟨none, .s (.v 10 (.mov (.t 14)))⟩,
      ⟨none, .s (.v 15 (.ext 0 (.t 10)))⟩,
      ⟨none, .s (.v 16 (.ext 1 (.t 10)))⟩,
      ⟨none, .s (.alloc 5 none (.agg [.int .i64 0, .int .i64 0, .str [], .slice 4 .nil []]))⟩,
      ⟨none, .s (.store 4 (.t 5) (.t 15))⟩,
      ⟨none, .s (.v 6 (.mov (.t 16)))⟩])
    (.seq (.region [⟨none, .s (.v 17 (.mov (.t 6)))⟩])
    (.cond (.t 17)
      (.seq (.region [⟨none, .s (.v 18 (.load true 4 (.t 5)))⟩,
        ⟨none, .s (.store 4 (.t 4) (.t 18))⟩])
      .ret)
      .skip)))
    .skip))
  (.seq (.seq (.region [⟨none, .s (.v 19 (.faddr 0 false 1 (.t 3)))⟩,
    ⟨none, .s (.v 20 (.load false 1 (.t 19)))⟩,
    ⟨none, .s (.v 21 (.bin .eql false (.t 20) (.c (.int .i64 4))))⟩])
  (.cond (.t 21)
    (.seq (.drawn true 36 [⟨none, .s (.v 22 (.mov (.t 0)))⟩,
      ⟨none, .s (.v 23 (.faddr 3 false 1 (.t 3)))⟩,
      ⟨none, .s (.v 24 (.load false 1 (.t 23)))⟩,
      ⟨none, .s (.v 25 (.iaddr 4 (.t 24) (.c (.int .i64 0))))⟩,
      ⟨none, .s (.v 26 (.load true 4 (.t 25)))⟩,
      ⟨none, .call (some 27) (.c (.func 53 [])) [(.t 22), (.t 26)]⟩,
      ⟨none, .s (.v 28 (.mov (.t 0)))⟩,
      ⟨none, .s (.v 29 (.faddr 3 false 1 (.t 3)))⟩,
      ⟨none, .s (.v 30 (.load false 1 (.t 29)))⟩,
      ⟨none, .s (.v 31 (.iaddr 4 (.t 30) (.c (.int .i64 1))))⟩,
      ⟨none, .s (.v 32 (.load true 4 (.t 31)))⟩,
      ⟨none, .call (some 33) (.c (.func 53 [])) [(.t 28), (.t 32)]⟩,
      ⟨none, .call (some 34) (.c (.func 104 [])) [(.t 27), (.t 33)]⟩,
      ⟨none, .s (.store 4 (.t 4) (.t 34))⟩])
    .ret)
    .skip))
  (.seq (.region [⟨none, .s (.v 35 (.load true 4 (.t 3)))⟩,
    ⟨none, .s (.store 4 (.t 4) (.t 35))⟩])
  .ret))))
def r_spec_l04Put : List RV := [.cell 4 true 4]

/-- impl.TermOk -/
def c_impl_TermOk : C :=
  (.seq (.region [⟨none, .s (.box 1 none (.t 0))⟩,
    ⟨none, .s (.v 2 (.mov (.c (.bool false))))⟩])
  (.seq (.region [⟨none, .s (.v 3 (.load true 4 (.t 1)))⟩,
    ⟨none, .call (some 4) (.c (.func 108 [])) [(.t 3), (.c (.int .i64 5000))]⟩,
    ⟨none, .s (.v 5 (.bin .gtr false (.t 4) (.c (.int .i64 0))))⟩,
    ⟨none, .s (.v 2 (.mov (.t 5)))⟩])
  .ret))
def r_impl_TermOk : List RV := [.tmp 2]

/-- impl.power -/
def c_impl_power : C :=
  (.seq (.region [⟨none, .s (.v 4 (.mov (.c (.int .i64 0))))⟩])
  (.seq (.region [⟨none, .s (.v 5 (.mov (.c (.int .i64 1))))⟩])
  (.seq (.seq (.region [⟨none, .s (.v 6 (.mov (.c (.int .i64 0))))⟩])
  (.block 0 
    (.loop 
      (.seq (.seq (.region [⟨none, .s (.v 7 (.mov (.t 6)))⟩,
        ⟨none, .s (.v 8 (.mov (.t 1)))⟩,
        ⟨none, .s (.v 9 (.bin .lss false (.t 7) (.t 8)))⟩,
        ⟨none, .s (.v 10 (.mov (.t 9)))⟩,
        ⟨(some (10, true)), .s (.v 11 (.mov (.t 5)))⟩,
        ⟨(some (10, true)), .s (.v 12 (.bin .leq false (.t 11) (.c (.int .i64 512))))⟩,
        ⟨none, .s (.v 13 (.pick (.t 10) (.t 12) (.c (.bool false))))⟩,
        ⟨none, .s (.v 14 (.mov (.t 13)))⟩,
        ⟨(some (14, true)), .s (.v 15 (.mov (.t 0)))⟩,
        ⟨(some (14, true)), .s (.v 16 (.bin .neq false (.t 15) (.c (.int .i64 1))))⟩,
        ⟨none, .s (.v 17 (.pick (.t 14) (.t 16) (.c (.bool false))))⟩])
      (.cond (.t 17)
        .skip
        (.exit 0)))
      (.seq (.block 1 
        (.region [⟨none, .s (.v 20 (.mov (.t 5)))⟩,
          ⟨none, .s (.v 21 (.mov (.t 0)))⟩,
          ⟨none, .s (.v 22 (.bin .mul false (.t 20) (.t 21)))⟩,
          ⟨none, .s (.v 5 (.mov (.t 22)))⟩]))
      (.region [⟨none, .s (.v 18 (.mov (.t 6)))⟩,
        ⟨none, .s (.v 19 (.bin .add false (.t 18) (.c (.int .i64 1))))⟩,
        ⟨none, .s (.v 6 (.mov (.t 19)))⟩]))))))
  (.seq (.region [⟨none, .s (.v 23 (.mov (.t 5)))⟩,
    ⟨none, .s (.v 24 (.min2 (.t 23) (.c (.int .i64 513))))⟩,
    ⟨none, .s (.v 4 (.mov (.t 24)))⟩])
  .ret))))
def r_impl_power : List RV := [.tmp 4]

/-- impl.assignments -/
def c_impl_assignments : C :=
  (.seq (.region [⟨none, .s (.v 4 (.mov (.c (.slice 1 .nil []))))⟩])
  (.seq (.region [⟨none, .s (.bsl 13 5 30 [])⟩,
    ⟨none, .s (.bsl 14 1 31 [(.t 13)])⟩,
    ⟨none, .s (.v 5 (.mov (.t 14)))⟩])
  (.seq (.seq (.region [⟨none, .s (.v 15 (.mov (.t 0)))⟩,
    ⟨none, .s (.v 16 (.len (.t 15)))⟩,
    ⟨none, .s (.v 17 (.mov (.c (.int .i64 0))))⟩])
  (.block 0 
    (.loop 
      (.seq (.region [⟨none, .s (.v 18 (.bin .lss false (.t 17) (.t 16)))⟩])
      (.seq (.cond (.t 18)
        .skip
        (.exit 0))
      (.seq (.block 1 
        (.seq (.region [⟨none, .s (.v 19 (.iaddr 1 (.t 15) (.t 17)))⟩,
          ⟨none, .s (.v 20 (.load false 1 (.t 19)))⟩,
          ⟨none, .s (.v 7 (.mov (.t 20)))⟩])
        (.seq (.region [⟨none, .s (.bsl 21 1 31 [])⟩,
          ⟨none, .s (.v 8 (.mov (.t 21)))⟩])
        (.seq (.seq (.region [⟨none, .s (.v 22 (.mov (.t 5)))⟩,
          ⟨none, .s (.v 23 (.len (.t 22)))⟩,
          ⟨none, .s (.v 24 (.mov (.c (.int .i64 0))))⟩])
        (.block 2 
          (.loop 
            (.seq (.region [⟨none, .s (.v 25 (.bin .lss false (.t 24) (.t 23)))⟩])
            (.seq (.cond (.t 25)
              .skip
              (.exit 2))
            (.seq (.block 3 
              (.seq (.region [⟨none, .s (.v 26 (.iaddr 1 (.t 22) (.t 24)))⟩,
                ⟨none, .s (.v 27 (.load false 1 (.t 26)))⟩,
                ⟨none, .s (.v 10 (.mov (.t 27)))⟩])
              (.seq (.region [⟨none, .s (.v 28 (.mov (.t 1)))⟩,
                ⟨none, .s (.v 29 (.len (.t 28)))⟩,
                ⟨none, .s (.v 30 (.mov (.c (.int .i64 0))))⟩])
              (.block 4 
                (.loop 
                  (.seq (.region [⟨none, .s (.v 31 (.bin .lss false (.t 30) (.t 29)))⟩])
                  (.seq (.cond (.t 31)
                    .skip
                    (.exit 4))
                  (.seq (.block 5 
                    (.seq (.region [⟨none, .s (.v 32 (.iaddr 4 (.t 28) (.t 30)))⟩,
                      ⟨none, .s (.v 33 (.load true 4 (.t 32)))⟩,
                      ⟨none, .s (.alloc 12 none (.agg [.int .i64 0, .int .i64 0, .str [], .slice 4 .nil []]))⟩,
                      ⟨none, .s (.store 4 (.t 12) (.t 33))⟩])
                    (.drawn true 50 [⟨none, .s (.v 34 (.mov (.t 8)))⟩,
                      ⟨none, .s (.bsl 35 5 30 [])⟩,
                      ⟨none, .s (.v 36 (.mov (.t 10)))⟩,
                      ⟨none, .s (.app 37 5 30 (.t 35) (.t 36))⟩,
                      ⟨none, .s (.v 38 (.mov (.t 7)))⟩,
                      ⟨none, .s (.v 39 (.load true 4 (.t 12)))⟩,
                      ⟨none, .s (.v 40 (.build [.int .i64 0, .int .i64 0, .int .i64 0, .str [], .slice 4 .nil []] [(0, 1, (.t 38)), (1, 4, (.t 39))]))⟩,
                      ⟨none, .s (.bsl 41 5 30 [(.t 40)])⟩,
                      ⟨none, .s (.app 42 5 30 (.t 37) (.t 41))⟩,
                      ⟨none, .s (.bsl 43 1 31 [(.t 42)])⟩,
                      ⟨none, .s (.app 44 1 31 (.t 34) (.t 43))⟩,
                      ⟨none, .s (.v 8 (.mov (.t 44)))⟩])))
                  (.region [⟨none, .s (.v 45 (.bin .add false (.t 30) (.c (.int .i64 1))))⟩,
                    ⟨none, .s (.v 30 (.mov (.t 45)))⟩])))))))))
            (.region [⟨none, .s (.v 46 (.bin .add false (.t 24) (.c (.int .i64 1))))⟩,
              ⟨none, .s (.v 24 (.mov (.t 46)))⟩])))))))
        (.region [⟨none, .s (.v 47 (.mov (.t 8)))⟩,
          ⟨none, .s (.v 5 (.mov (.t 47)))⟩])))))
      (.region [⟨none, .s (.v 48 (.bin .add false (.t 17) (.c (.int .i64 1))))⟩,
        ⟨none, .s (.v 17 (.mov (.t 48)))⟩])))))))
  (.seq (.region [⟨none, .s (.v 49 (.mov (.t 5)))⟩,
    ⟨none, .s (.v 4 (.mov (.t 49)))⟩])
  .ret))))
def r_impl_assignments : List RV := [.tmp 4]

/-- impl.put -/
def c_impl_put : C :=
  (.seq (.region [⟨none, .s (.box 2 (some 201) (.t 0))⟩,
    ⟨none, .s (.box 3 none (.t 1))⟩,
    ⟨none, .s (.alloc 4 none (.agg [.int .i64 0, .int .i64 0, .str [], .slice 4 .nil []]))⟩,
    ⟨none, .s (.v 5 (.mov (.c (.bool false))))⟩])
  (.seq (.region [⟨none, .s (.v 6 (.load true 4 (.t 3)))⟩,
    ⟨none, .s (.v 7 (.mkf 110 [(.t 2)]))⟩,
    ⟨none, .call (some 8) (.c (.func 109 [])) [(.t 6), (.t 7)]⟩,
    ⟨none, .s (.v 9 (.ext 0 (.t 8)))⟩,
    ⟨none, .s (.v 10 (.ext 1 (.t 8)))⟩,
    ⟨none, .s (.store 4 (.t 4) (.t 9))⟩,
    ⟨none, .s (.v 5 (.mov (.t 10)))⟩])
  .ret))
def r_impl_put : List RV := [.cell 4 true 4, .tmp 5]

/-- impl.ascending -/
def c_impl_ascending : C :=
  (.seq (.region [⟨none, .s (.v 2 (.mov (.c (.slice 4 .nil []))))⟩])
  (.seq (.region [⟨none, .s (.bsl 7 4 26 [])⟩,
    ⟨none, .s (.v 8 (.mov (.t 0)))⟩,
    ⟨none, .s (.app 9 4 26 (.t 7) (.t 8))⟩,
    ⟨none, .s (.alloc 3 none (.slice 4 .nil []))⟩,
    ⟨none, .s (.store 1 (.t 3) (.t 9))⟩])
  (.seq (.region [⟨none, .s (.v 10 (.load false 1 (.t 3)))⟩,
    ⟨none, .s (.v 11 (.mkif 23 (.t 10)))⟩,
    ⟨none, .s (.v 12 (.mkf 113 [(.t 3)]))⟩,
    ⟨none, .call (some 13) (.c (.func 112 [])) [(.t 11), (.t 12)]⟩])
  (.seq (.region [⟨none, .s (.bsl 14 4 26 [])⟩,
    ⟨none, .s (.v 4 (.mov (.t 14)))⟩])
  (.seq (.seq (.region [⟨none, .s (.v 15 (.load false 1 (.t 3)))⟩,
    ⟨none, .s (.v 16 (.len (.t 15)))⟩,
    ⟨none, .s (.v 17 (.mov (.c (.int .i64 0))))⟩])
  (.block 0 
    (.loop 
      (.seq (.region [⟨none, .s (.v 18 (.bin .lss false (.t 17) (.t 16)))⟩])
      (.seq (.cond (.t 18)
        .skip
        (.exit 0))
      (.seq (.block 1 
        (.seq (.region [⟨none, .s (.v 19 (.mov (.t 17)))⟩,
          ⟨none, .s (.v 20 (.iaddr 4 (.t 15) (.t 17)))⟩,
          ⟨none, .s (.v 21 (.load true 4 (.t 20)))⟩,
          ⟨none, .s (.alloc 6 none (.agg [.int .i64 0, .int .i64 0, .str [], .slice 4 .nil []]))⟩,
          ⟨none, .s (.v 5 (.mov (.t 19)))⟩,
          ⟨none, .s (.store 4 (.t 6) (.t 21))⟩])
        (.seq (.drawn true 41 [⟨none, .s (.v 22 (.mov (.t 5)))⟩,
          ⟨none, .s (.v 23 (.bin .eql false (.t 22) (.c (.int .i64 0))))⟩,
          ⟨none, .s (.v 24 (.mov (.t 23)))⟩,
          ⟨(some (24, false)), .s (.v 25 (.load false 1 (.t 3)))⟩,
          ⟨(some (24, false)), .s (.v 26 (.mov (.t 5)))⟩,
          ⟨(some (24, false)), .s (.v 27 (.bin .sub false (.t 26) (.c (.int .i64 1))))⟩,
          ⟨(some (24, false)), .s (.v 28 (.iaddr 4 (.t 25) (.t 27)))⟩,
          ⟨(some (24, false)), .s (.v 29 (.load true 4 (.t 28)))⟩,
          ⟨(some (24, false)), .s (.v 30 (.load true 4 (.t 6)))⟩,
          ⟨(some (24, false)), .call (some 31) (.c (.func 114 [])) [(.t 29), (.t 30)]⟩,
          ⟨(some (24, false)), .s (.v 32 (.notB (.t 31)))⟩,
          ⟨none, .s (.v 33 (.pick (.t 24) (.c (.bool true)) (.t 32)))⟩])
        (.cond (.t 33)
          (.region [⟨none, .s (.v 34 (.mov (.t 4)))⟩,
            ⟨none, .s (.v 35 (.load true 4 (.t 6)))⟩,
            ⟨none, .call (some 36) (.c (.func 66 [])) [(.t 35)]⟩,
            ⟨none, .s (.bsl 37 4 26 [(.t 36)])⟩,
            ⟨none, .s (.app 38 4 26 (.t 34) (.t 37))⟩,
            ⟨none, .s (.v 4 (.mov (.t 38)))⟩])
          .skip))))
      (.region [⟨none, .s (.v 39 (.bin .add false (.t 17) (.c (.int .i64 1))))⟩,
        ⟨none, .s (.v 17 (.mov (.t 39)))⟩])))))))
  (.seq (.region [⟨none, .s (.v 40 (.mov (.t 4)))⟩,
    ⟨none, .s (.v 2 (.mov (.t 40)))⟩])
  .ret))))))
def r_impl_ascending : List RV := [.tmp 2]

/-- impl.orderTerms -/
def c_impl_orderTerms : C :=
  (.seq (.region [⟨none, .s (.box 2 none (.t 0))⟩,
    ⟨none, .s (.box 3 none (.t 1))⟩,
    ⟨none, .s (.v 4 (.mov (.c (.int .i64 0))))⟩])
  (.seq (.seq (.region [⟨none, .s (.v 6 (.faddr 0 false 1 (.t 2)))⟩,
    ⟨none, .s (.v 7 (.load false 1 (.t 6)))⟩,
    ⟨none, .s (.v 8 (.faddr 0 false 1 (.t 3)))⟩,
    ⟨none, .s (.v 9 (.load false 1 (.t 8)))⟩,
    ⟨none, .s (.v 10 (.bin .neq false (.t 7) (.t 9)))⟩])
  (.cond (.t 10)
    (.seq (.region [⟨none, .s (.v 11 (.faddr 0 false 1 (.t 2)))⟩,
      ⟨none, .s (.v 12 (.load false 1 (.t 11)))⟩,
      ⟨none, .s (.v 13 (.faddr 0 false 1 (.t 3)))⟩,
      ⟨none, .s (.v 14 (.load false 1 (.t 13)))⟩,
      ⟨none, .call (some 15) (.c (.func 115 [])) [(.t 12), (.t 14)]⟩,
      ⟨none, .s (.v 4 (.mov (.t 15)))⟩])
    .ret)
    .skip))
  (.seq (.seq (.region [⟨none, .s (.v 16 (.faddr 1 false 1 (.t 2)))⟩,
    ⟨none, .s (.v 17 (.load false 1 (.t 16)))⟩,
    ⟨none, .s (.v 18 (.faddr 1 false 1 (.t 3)))⟩,
    ⟨none, .s (.v 19 (.load false 1 (.t 18)))⟩,
    ⟨none, .s (.v 20 (.bin .neq false (.t 17) (.t 19)))⟩])
  (.cond (.t 20)
    (.seq (.region [⟨none, .s (.v 21 (.faddr 1 false 1 (.t 2)))⟩,
      ⟨none, .s (.v 22 (.load false 1 (.t 21)))⟩,
      ⟨none, .s (.v 23 (.faddr 1 false 1 (.t 3)))⟩,
      ⟨none, .s (.v 24 (.load false 1 (.t 23)))⟩,
      ⟨none, .call (some 25) (.c (.func 115 [])) [(.t 22), (.t 24)]⟩,
      ⟨none, .s (.v 4 (.mov (.t 25)))⟩])
    .ret)
    .skip))
  (.seq (.seq (.region [⟨none, .s (.v 26 (.faddr 2 false 1 (.t 2)))⟩,
    ⟨none, .s (.v 27 (.load false 1 (.t 26)))⟩,
    ⟨none, .s (.v 28 (.faddr 2 false 1 (.t 3)))⟩,
    ⟨none, .s (.v 29 (.load false 1 (.t 28)))⟩,
    ⟨none, .s (.v 30 (.bin .neq false (.t 27) (.t 29)))⟩])
  (.cond (.t 30)
    (.seq (.seq (.region [⟨none, .s (.v 31 (.faddr 2 false 1 (.t 2)))⟩,
      ⟨none, .s (.v 32 (.load false 1 (.t 31)))⟩,
      ⟨none, .s (.v 33 (.faddr 2 false 1 (.t 3)))⟩,
      ⟨none, .s (.v 34 (.load false 1 (.t 33)))⟩,
      ⟨none, .s (.v 35 (.bin .lss false (.t 32) (.t 34)))⟩])
    (.cond (.t 35)
      (.seq (.region [⟨none, .s (.v 4 (.mov (.c (.int .i64 (-1)))))⟩])
      .ret)
      .skip))
    (.seq (.region [⟨none, .s (.v 4 (.mov (.c (.int .i64 1))))⟩])
    .ret))
    .skip))
  (.seq (.seq (.region [⟨none, .s (.v 36 (.faddr 0 false 1 (.t 2)))⟩,
    ⟨none, .s (.v 37 (.load false 1 (.t 36)))⟩,
    ⟨none, .s (.v 38 (.bin .neq false (.t 37) (.c (.int .i64 4))))⟩])
  (.cond (.t 38)
    (.seq (.region [⟨none, .s (.v 4 (.mov (.c (.int .i64 0))))⟩])
    .ret)
    .skip))
  (.seq (.seq (.drawn true 60 [⟨none, .s (.v 39 (.faddr 3 false 1 (.t 2)))⟩,
    ⟨none, .s (.v 40 (.load false 1 (.t 39)))⟩,
    ⟨none, .s (.v 41 (.iaddr 4 (.t 40) (.c (.int .i64 0))))⟩,
    ⟨none, .s (.v 42 (.load true 4 (.t 41)))⟩,
    ⟨none, .s (.v 43 (.faddr 3 false 1 (.t 3)))⟩,
    ⟨none, .s (.v 44 (.load false 1 (.t 43)))⟩,
    ⟨none, .s (.v 45 (.iaddr 4 (.t 44) (.c (.int .i64 0))))⟩,
    ⟨none, .s (.v 46 (.load true 4 (.t 45)))⟩,
    ⟨none, .call (some 47) (.c (.func 59 [])) [(.t 42), (.t 46)]⟩,
    ⟨none, .s (.v 5 (.mov (.t 47)))⟩])
  (.seq (.region [⟨none, .s (.v 48 (.mov (.t 5)))⟩,
    ⟨none, .s (.v 49 (.bin .neq false (.t 48) (.c (.int .i64 0))))⟩])
  (.cond (.t 49)
    (.seq (.region [⟨none, .s (.v 50 (.mov (.t 5)))⟩,
      ⟨none, .s (.v 4 (.mov (.t 50)))⟩])
    .ret)
    .skip)))
  (.seq (.drawn true 60 [⟨none, .s (.v 51 (.faddr 3 false 1 (.t 2)))⟩,
    ⟨none, .s (.v 52 (.load false 1 (.t 51)))⟩,
    ⟨none, .s (.v 53 (.iaddr 4 (.t 52) (.c (.int .i64 1))))⟩,
    ⟨none, .s (.v 54 (.load true 4 (.t 53)))⟩,
    ⟨none, .s (.v 55 (.faddr 3 false 1 (.t 3)))⟩,
    ⟨none, .s (.v 56 (.load false 1 (.t 55)))⟩,
    ⟨none, .s (.v 57 (.iaddr 4 (.t 56) (.c (.int .i64 1))))⟩,
    ⟨none, .s (.v 58 (.load true 4 (.t 57)))⟩,
    ⟨none, .call (some 59) (.c (.func 59 [])) [(.t 54), (.t 58)]⟩,
    ⟨none, .s (.v 4 (.mov (.t 59)))⟩])
  .ret)))))))
def r_impl_orderTerms : List RV := [.tmp 4]

/-- impl.isGround -/
def c_impl_isGround : C :=
  (.seq (.region [⟨none, .s (.box 1 none (.t 0))⟩,
    ⟨none, .s (.v 2 (.mov (.c (.bool false))))⟩])
  (.seq (.region [⟨none, .s (.alloc 3 none (.bool false))⟩,
    ⟨none, .s (.store 1 (.t 3) (.c (.bool true)))⟩])
  (.seq (.region [⟨none, .s (.v 4 (.load true 4 (.t 1)))⟩,
    ⟨none, .s (.v 5 (.mkf 116 [(.t 3)]))⟩,
    ⟨none, .call (some 6) (.c (.func 70 [])) [(.t 4), (.t 5)]⟩])
  (.seq (.region [⟨none, .s (.v 7 (.load false 1 (.t 3)))⟩,
    ⟨none, .s (.v 2 (.mov (.t 7)))⟩])
  .ret))))
def r_impl_isGround : List RV := [.tmp 2]

/-- impl.matched -/
def c_impl_matched : C :=
  (.seq (.region [⟨none, .s (.box 3 none (.t 0))⟩,
    ⟨none, .s (.box 4 none (.t 1))⟩,
    ⟨none, .s (.v 6 (.mov (.c (.bool false))))⟩])
  (.seq (.seq (.region [⟨none, .s (.v 9 (.faddr 0 false 1 (.t 3)))⟩,
    ⟨none, .s (.v 10 (.load false 1 (.t 9)))⟩,
    ⟨none, .s (.v 11 (.bin .eql false (.t 10) (.c (.int .i64 1))))⟩])
  (.cond (.t 11)
    (.seq (.seq (.region [⟨none, .s (.v 13 (.mov (.t 2)))⟩,
      ⟨none, .s (.v 14 (.faddr 1 false 1 (.t 3)))⟩,
      ⟨none, .s (.v 15 (.load false 1 (.t 14)))⟩,
      ⟨none, .s (.v 16 (.mget false (.agg [.int .i64 0, .int .i64 0, .str [], .slice 4 .nil []]) true (.t 13) (.t 15)))⟩,
      ⟨none, .s (.v 12 (.mov (.t 16)))⟩,
      ⟨none, .s (.v 17 (.ext 0 (.t 12)))⟩,
      ⟨none, .s (.v 18 (.ext 1 (.t 12)))⟩,
      ⟨none, .s (.alloc 7 none (.agg [.int .i64 0, .int .i64 0, .str [], .slice 4 .nil []]))⟩,
      ⟨none, .s (.store 4 (.t 7) (.t 17))⟩,
      ⟨none, .s (.v 8 (.mov (.t 18)))⟩])
    (.seq (.region [⟨none, .s (.v 19 (.mov (.t 8)))⟩])
    (.cond (.t 19)
      (.seq (.region [⟨none, .s (.v 20 (.load true 4 (.t 7)))⟩,
        ⟨none, .s (.v 21 (.load true 4 (.t 4)))⟩,
        ⟨none, .call (some 22) (.c (.func 114 [])) [(.t 20), (.t 21)]⟩,
        ⟨none, .s (.v 6 (.mov (.t 22)))⟩])
      .ret)
      .skip)))
    (.seq (.region [⟨none, .s (.v 23 (.mov (.t 2)))⟩,
      ⟨none, .s (.v 24 (.faddr 1 false 1 (.t 3)))⟩,
      ⟨none, .s (.v 25 (.load false 1 (.t 24)))⟩,
      ⟨none, .s (.v 26 (.load true 4 (.t 4)))⟩,
      ⟨none, .s (.mput false (.t 23) (.t 25) (.t 26))⟩])
    (.seq (.region [⟨none, .s (.v 6 (.mov (.c (.bool true))))⟩])
    .ret)))
    .skip))
  (.seq (.seq (.region [⟨none, .s (.v 27 (.faddr 0 false 1 (.t 3)))⟩,
    ⟨none, .s (.v 28 (.load false 1 (.t 27)))⟩,
    ⟨none, .s (.v 29 (.faddr 0 false 1 (.t 4)))⟩,
    ⟨none, .s (.v 30 (.load false 1 (.t 29)))⟩,
    ⟨none, .s (.v 31 (.bin .neq false (.t 28) (.t 30)))⟩,
    ⟨none, .s (.v 32 (.mov (.t 31)))⟩,
    ⟨(some (32, false)), .s (.v 33 (.faddr 1 false 1 (.t 3)))⟩,
    ⟨(some (32, false)), .s (.v 34 (.load false 1 (.t 33)))⟩,
    ⟨(some (32, false)), .s (.v 35 (.faddr 1 false 1 (.t 4)))⟩,
    ⟨(some (32, false)), .s (.v 36 (.load false 1 (.t 35)))⟩,
    ⟨(some (32, false)), .s (.v 37 (.bin .neq false (.t 34) (.t 36)))⟩,
    ⟨none, .s (.v 38 (.pick (.t 32) (.c (.bool true)) (.t 37)))⟩,
    ⟨none, .s (.v 39 (.mov (.t 38)))⟩,
    ⟨(some (39, false)), .s (.v 40 (.faddr 2 false 1 (.t 3)))⟩,
    ⟨(some (39, false)), .s (.v 41 (.load false 1 (.t 40)))⟩,
    ⟨(some (39, false)), .s (.v 42 (.faddr 2 false 1 (.t 4)))⟩,
    ⟨(some (39, false)), .s (.v 43 (.load false 1 (.t 42)))⟩,
    ⟨(some (39, false)), .s (.v 44 (.bin .neq false (.t 41) (.t 43)))⟩,
    ⟨none, .s (.v 45 (.pick (.t 39) (.c (.bool true)) (.t 44)))⟩])
  (.cond (.t 45)
    (.seq (.region [⟨none, .s (.v 6 (.mov (.c (.bool false))))⟩])
    .ret)
    .skip))
  (.seq (.drawn false 73 [⟨none, .s (.v 46 (.faddr 0 false 1 (.t 3)))⟩,
    ⟨none, .s (.v 47 (.load false 1 (.t 46)))⟩,
    ⟨none, .s (.v 48 (.bin .neq false (.t 47) (.c (.int .i64 4))))⟩,
    ⟨none, .s (.v 49 (.mov (.t 48)))⟩,
    ⟨(some (49, false)), .s (.v 50 (.faddr 3 false 1 (.t 3)))⟩,
    ⟨(some (49, false)), .s (.v 51 (.load false 1 (.t 50)))⟩,
    ⟨(some (49, false)), .s (.v 52 (.iaddr 4 (.t 51) (.c (.int .i64 0))))⟩,
    ⟨(some (49, false)), .s (.v 53 (.load true 4 (.t 52)))⟩,
    ⟨(some (49, false)), .s (.v 54 (.faddr 3 false 1 (.t 4)))⟩,
    ⟨(some (49, false)), .s (.v 55 (.load false 1 (.t 54)))⟩,
    ⟨(some (49, false)), .s (.v 56 (.iaddr 4 (.t 55) (.c (.int .i64 0))))⟩,
    ⟨(some (49, false)), .s (.v 57 (.load true 4 (.t 56)))⟩,
    ⟨(some (49, false)), .s (.v 58 (.mov (.t 2)))⟩,
    ⟨(some (49, false)), .call (some 59) (.c (.func 61 [])) [(.t 53), (.t 57), (.t 58)]⟩,
    ⟨(some (49, false)), .s (.v 60 (.mov (.t 59)))⟩,
    ⟨(some (60, true)), .s (.v 61 (.faddr 3 false 1 (.t 3)))⟩,
    ⟨(some (60, true)), .s (.v 62 (.load false 1 (.t 61)))⟩,
    ⟨(some (60, true)), .s (.v 63 (.iaddr 4 (.t 62) (.c (.int .i64 1))))⟩,
    ⟨(some (60, true)), .s (.v 64 (.load true 4 (.t 63)))⟩,
    ⟨(some (60, true)), .s (.v 65 (.faddr 3 false 1 (.t 4)))⟩,
    ⟨(some (60, true)), .s (.v 66 (.load false 1 (.t 65)))⟩,
    ⟨(some (60, true)), .s (.v 67 (.iaddr 4 (.t 66) (.c (.int .i64 1))))⟩,
    ⟨(some (60, true)), .s (.v 68 (.load true 4 (.t 67)))⟩,
    ⟨(some (60, true)), .s (.v 69 (.mov (.t 2)))⟩,
    ⟨(some (60, true)), .call (some 70) (.c (.func 61 [])) [(.t 64), (.t 68), (.t 69)]⟩,
    ⟨(some (49, false)), .s (.v 71 (.pick (.t 60) (.t 70) (.c (.bool false))))⟩,
    ⟨none, .s (.v 72 (.pick (.t 49) (.c (.bool true)) (.t 71)))⟩,
    ⟨none, .s (.v 6 (.mov (.t 72)))⟩])
  .ret))))
def r_impl_matched : List RV := [.tmp 6]

/-- impl.termsOk -/
def c_impl_termsOk : C :=
  (.seq (.region [⟨none, .s (.v 2 (.mov (.c (.bool false))))⟩])
  (.seq (.seq (.region [⟨none, .s (.v 5 (.mov (.t 0)))⟩,
    ⟨none, .s (.v 6 (.len (.t 5)))⟩,
    ⟨none, .s (.v 7 (.mov (.c (.int .i64 0))))⟩])
  (.block 0 
    (.loop 
      (.seq (.region [⟨none, .s (.v 8 (.bin .lss false (.t 7) (.t 6)))⟩])
      (.seq (.cond (.t 8)
        .skip
        (.exit 0))
      (.seq (.block 1 
        (.seq (.region [⟨none, .s (.v 9 (.iaddr 4 (.t 5) (.t 7)))⟩,
          ⟨none, .s (.v 10 (.load true 4 (.t 9)))⟩,
          ⟨none, .s (.alloc 4 none (.agg [.int .i64 0, .int .i64 0, .str [], .slice 4 .nil []]))⟩,
          ⟨none, .s (.store 4 (.t 4) (.t 10))⟩])
        (.seq (.region [⟨none, .s (.v 11 (.load true 4 (.t 4)))⟩,
          ⟨none, .call (some 12) (.c (.func 54 [])) [(.t 11)]⟩,
          ⟨none, .s (.v 13 (.notB (.t 12)))⟩])
        (.cond (.t 13)
          (.seq (.region [⟨none, .s (.v 2 (.mov (.c (.bool false))))⟩])
          .ret)
          .skip))))
      (.region [⟨none, .s (.v 14 (.bin .add false (.t 7) (.c (.int .i64 1))))⟩,
        ⟨none, .s (.v 7 (.mov (.t 14)))⟩])))))))
  (.seq (.region [⟨none, .s (.v 2 (.mov (.c (.bool true))))⟩])
  .ret)))
def r_impl_termsOk : List RV := [.tmp 2]

/-- impl.pair -/
def c_impl_pair : C :=
  (.seq (.region [⟨none, .s (.box 2 none (.t 0))⟩,
    ⟨none, .s (.box 3 none (.t 1))⟩,
    ⟨none, .s (.alloc 4 none (.agg [.int .i64 0, .int .i64 0, .str [], .slice 4 .nil []]))⟩])
  (.seq (.region [⟨none, .s (.v 5 (.load true 4 (.t 2)))⟩,
    ⟨none, .s (.v 6 (.load true 4 (.t 3)))⟩,
    ⟨none, .s (.bsl 7 4 26 [(.t 5), (.t 6)])⟩,
    ⟨none, .s (.v 8 (.build [.int .i64 0, .int .i64 0, .str [], .slice 4 .nil []] [(0, 1, (.c (.int .i64 4))), (3, 1, (.t 7))]))⟩,
    ⟨none, .s (.store 4 (.t 4) (.t 8))⟩])
  .ret))
def r_impl_pair : List RV := [.cell 4 true 4]

/-- spec.l12Ground -/
def c_spec_l12Ground : C :=
  (.seq (.region [⟨none, .s (.v 4 (.mov (.c (.slice 5 .nil []))))⟩])
  (.seq (.region [⟨none, .s (.bsl 7 5 30 [])⟩,
    ⟨none, .s (.v 5 (.mov (.t 7)))⟩])
  (.seq (.seq (.region [⟨none, .s (.v 6 (.mov (.c (.int .i64 0))))⟩])
  (.block 0 
    (.loop 
      (.seq (.seq (.region [⟨none, .s (.v 8 (.mov (.t 6)))⟩,
        ⟨none, .s (.v 9 (.mov (.t 1)))⟩,
        ⟨none, .s (.v 10 (.bin .lss false (.t 8) (.t 9)))⟩])
      (.cond (.t 10)
        .skip
        (.exit 0)))
      (.seq (.block 1 
        (.region [⟨none, .s (.v 13 (.mov (.t 5)))⟩,
          ⟨none, .s (.v 14 (.mov (.t 6)))⟩,
          ⟨none, .s (.v 15 (.mov (.t 0)))⟩,
          ⟨none, .call (some 16) (.c (.func 51 [])) [(.t 15), (.c (.int .i64 3)), (.c (.int .i64 0))]⟩,
          ⟨none, .s (.v 17 (.build [.int .i64 0, .int .i64 0, .int .i64 0, .str [], .slice 4 .nil []] [(0, 1, (.t 14)), (1, 4, (.t 16))]))⟩,
          ⟨none, .s (.bsl 18 5 30 [(.t 17)])⟩,
          ⟨none, .s (.app 19 5 30 (.t 13) (.t 18))⟩,
          ⟨none, .s (.v 5 (.mov (.t 19)))⟩]))
      (.region [⟨none, .s (.v 11 (.mov (.t 6)))⟩,
        ⟨none, .s (.v 12 (.bin .add false (.t 11) (.c (.int .i64 1))))⟩,
        ⟨none, .s (.v 6 (.mov (.t 12)))⟩]))))))
  (.seq (.region [⟨none, .s (.v 20 (.mov (.t 5)))⟩,
    ⟨none, .s (.v 4 (.mov (.t 20)))⟩])
  .ret))))
def r_spec_l12Ground : List RV := [.tmp 4]

/-- impl.copyTerm -/
def c_impl_copyTerm : C :=
  (.seq (.region [⟨none, .s (.box 1 none (.t 0))⟩,
    ⟨none, .s (.alloc 2 none (.agg [.int .i64 0, .int .i64 0, .str [], .slice 4 .nil []]))⟩])
  (.seq (.seq (.region [⟨none, .s (.v 3 (.faddr 0 false 1 (.t 1)))⟩,
    ⟨none, .s (.v 4 (.load false 1 (.t 3)))⟩,
    ⟨none, .s (.v 5 (.bin .neq false (.t 4) (.c (.int .i64 4))))⟩])
  (.cond (.t 5)
    (.seq (.region [⟨none, .s (.v 6 (.faddr 0 false 1 (.t 1)))⟩,
      ⟨none, .s (.v 7 (.load false 1 (.t 6)))⟩,
      ⟨none, .s (.v 8 (.faddr 1 false 1 (.t 1)))⟩,
      ⟨none, .s (.v 9 (.load false 1 (.t 8)))⟩,
      ⟨none, .s (.v 10 (.faddr 2 false 1 (.t 1)))⟩,
      ⟨none, .s (.v 11 (.load false 1 (.t 10)))⟩,
      ⟨none, .s (.v 12 (.build [.int .i64 0, .int .i64 0, .str [], .slice 4 .nil []] [(0, 1, (.t 7)), (1, 1, (.t 9)), (2, 1, (.t 11))]))⟩,
      ⟨none, .s (.store 4 (.t 2) (.t 12))⟩])
    .ret)
    .skip))
  (.seq (.drawn true 25 [⟨none, .s (.v 13 (.faddr 3 false 1 (.t 1)))⟩,
    ⟨none, .s (.v 14 (.load false 1 (.t 13)))⟩,
    ⟨none, .s (.v 15 (.iaddr 4 (.t 14) (.c (.int .i64 0))))⟩,
    ⟨none, .s (.v 16 (.load true 4 (.t 15)))⟩,
    ⟨none, .call (some 17) (.c (.func 66 [])) [(.t 16)]⟩,
    ⟨none, .s (.v 18 (.faddr 3 false 1 (.t 1)))⟩,
    ⟨none, .s (.v 19 (.load false 1 (.t 18)))⟩,
    ⟨none, .s (.v 20 (.iaddr 4 (.t 19) (.c (.int .i64 1))))⟩,
    ⟨none, .s (.v 21 (.load true 4 (.t 20)))⟩,
    ⟨none, .call (some 22) (.c (.func 66 [])) [(.t 21)]⟩,
    ⟨none, .s (.bsl 23 4 26 [(.t 17), (.t 22)])⟩,
    ⟨none, .s (.v 24 (.build [.int .i64 0, .int .i64 0, .str [], .slice 4 .nil []] [(0, 1, (.c (.int .i64 4))), (3, 1, (.t 23))]))⟩,
    ⟨none, .s (.store 4 (.t 2) (.t 24))⟩])
  .ret)))
def r_impl_copyTerm : List RV := [.cell 2 true 4]

/-- impl.sortBindings -/
def c_impl_sortBindings : C :=
  (.seq (.region [⟨none, .s (.box 1 (some 307) (.t 0))⟩])
  (.region [⟨none, .s (.v 2 (.load false 1 (.t 1)))⟩,
    ⟨none, .s (.v 3 (.mkif 31 (.t 2)))⟩,
    ⟨none, .s (.v 4 (.mkf 118 [(.t 1)]))⟩,
    ⟨none, .call (some 5) (.c (.func 117 [])) [(.t 3), (.t 4)]⟩]))
def r_impl_sortBindings : List RV := []

/-- impl.occurs -/
def c_impl_occurs : C :=
  (.seq (.region [⟨none, .s (.box 3 none (.t 1))⟩,
    ⟨none, .s (.v 4 (.mov (.c (.bool false))))⟩])
  (.seq (.seq (.region [⟨none, .s (.v 5 (.faddr 0 false 1 (.t 3)))⟩,
    ⟨none, .s (.v 6 (.load false 1 (.t 5)))⟩,
    ⟨none, .s (.v 7 (.bin .eql false (.t 6) (.c (.int .i64 1))))⟩])
  (.cond (.t 7)
    (.seq (.region [⟨none, .s (.v 8 (.faddr 1 false 1 (.t 3)))⟩,
      ⟨none, .s (.v 9 (.load false 1 (.t 8)))⟩,
      ⟨none, .s (.v 10 (.mov (.t 0)))⟩,
      ⟨none, .s (.v 11 (.bin .eql false (.t 9) (.t 10)))⟩,
      ⟨none, .s (.v 4 (.mov (.t 11)))⟩])
    .ret)
    .skip))
  (.seq (.region [⟨none, .s (.v 12 (.faddr 0 false 1 (.t 3)))⟩,
    ⟨none, .s (.v 13 (.load false 1 (.t 12)))⟩,
    ⟨none, .s (.v 14 (.bin .eql false (.t 13) (.c (.int .i64 4))))⟩,
    ⟨none, .s (.v 15 (.mov (.t 14)))⟩,
    ⟨(some (15, true)), .s (.v 16 (.mov (.t 0)))⟩,
    ⟨(some (15, true)), .s (.v 17 (.faddr 3 false 1 (.t 3)))⟩,
    ⟨(some (15, true)), .s (.v 18 (.load false 1 (.t 17)))⟩,
    ⟨(some (15, true)), .s (.v 19 (.iaddr 4 (.t 18) (.c (.int .i64 0))))⟩,
    ⟨(some (15, true)), .s (.v 20 (.load true 4 (.t 19)))⟩,
    ⟨(some (15, true)), .call (some 21) (.c (.func 68 [])) [(.t 16), (.t 20)]⟩,
    ⟨(some (15, true)), .s (.v 22 (.mov (.t 21)))⟩,
    ⟨(some (22, false)), .s (.v 23 (.mov (.t 0)))⟩,
    ⟨(some (22, false)), .s (.v 24 (.faddr 3 false 1 (.t 3)))⟩,
    ⟨(some (22, false)), .s (.v 25 (.load false 1 (.t 24)))⟩,
    ⟨(some (22, false)), .s (.v 26 (.iaddr 4 (.t 25) (.c (.int .i64 1))))⟩,
    ⟨(some (22, false)), .s (.v 27 (.load true 4 (.t 26)))⟩,
    ⟨(some (22, false)), .call (some 28) (.c (.func 68 [])) [(.t 23), (.t 27)]⟩,
    ⟨(some (15, true)), .s (.v 29 (.pick (.t 22) (.c (.bool true)) (.t 28)))⟩,
    ⟨none, .s (.v 30 (.pick (.t 15) (.t 29) (.c (.bool false))))⟩,
    ⟨none, .s (.v 4 (.mov (.t 30)))⟩])
  .ret)))
def r_impl_occurs : List RV := [.tmp 4]

/-- spec.l05Alike -/
def c_spec_l05Alike : C :=
  (.seq (.region [⟨none, .s (.box 4 none (.t 1))⟩,
    ⟨none, .s (.alloc 6 none (.agg [.int .i64 0, .int .i64 0, .str [], .slice 4 .nil []]))⟩])
  (.seq (.seq (.region [⟨none, .s (.v 8 (.mov (.t 0)))⟩,
    ⟨none, .call (some 9) (.c (.func 119 [])) [(.t 8), (.c (.int .i64 6))]⟩])
  (.cond (.t 9)
    (.seq (.region [⟨none, .s (.v 10 (.mov (.t 0)))⟩,
      ⟨none, .s (.v 11 (.mov (.t 2)))⟩,
      ⟨none, .call (some 12) (.c (.func 51 [])) [(.t 10), (.c (.int .i64 4)), (.t 11)]⟩,
      ⟨none, .s (.store 4 (.t 6) (.t 12))⟩])
    .ret)
    .skip))
  (.seq (.seq (.region [⟨none, .s (.v 13 (.faddr 0 false 1 (.t 4)))⟩,
    ⟨none, .s (.v 14 (.load false 1 (.t 13)))⟩,
    ⟨none, .s (.v 15 (.bin .eql false (.t 14) (.c (.int .i64 4))))⟩])
  (.cond (.t 15)
    (.seq (.region [⟨none, .s (.v 16 (.mov (.t 0)))⟩,
      ⟨none, .s (.v 17 (.faddr 3 false 1 (.t 4)))⟩,
      ⟨none, .s (.v 18 (.load false 1 (.t 17)))⟩,
      ⟨none, .s (.v 19 (.iaddr 4 (.t 18) (.c (.int .i64 0))))⟩,
      ⟨none, .s (.v 20 (.load true 4 (.t 19)))⟩,
      ⟨none, .s (.v 21 (.mov (.t 2)))⟩,
      ⟨none, .call (some 22) (.c (.func 69 [])) [(.t 16), (.t 20), (.t 21)]⟩,
      ⟨none, .s (.alloc 7 none (.agg [.int .i64 0, .int .i64 0, .str [], .slice 4 .nil []]))⟩,
      ⟨none, .s (.store 4 (.t 7) (.t 22))⟩])
    (.seq (.drawn false 33 [⟨none, .s (.v 23 (.load true 4 (.t 7)))⟩,
      ⟨none, .s (.v 24 (.mov (.t 0)))⟩,
      ⟨none, .s (.v 25 (.faddr 3 false 1 (.t 4)))⟩,
      ⟨none, .s (.v 26 (.load false 1 (.t 25)))⟩,
      ⟨none, .s (.v 27 (.iaddr 4 (.t 26) (.c (.int .i64 1))))⟩,
      ⟨none, .s (.v 28 (.load true 4 (.t 27)))⟩,
      ⟨none, .s (.v 29 (.mov (.t 2)))⟩,
      ⟨none, .call (some 30) (.c (.func 69 [])) [(.t 24), (.t 28), (.t 29)]⟩,
      ⟨none, .call (some 31) (.c (.func 104 [])) [(.t 23), (.t 30)]⟩,
      ⟨none, .s (.store 4 (.t 6) (.t 31))⟩])
    .ret))
    .skip))
  (.seq (.region [⟨none, .s (.v 32 (.load true 4 (.t 4)))⟩,
    ⟨none, .s (.store 4 (.t 6) (.t 32))⟩])
  .ret))))
def r_spec_l05Alike : List RV := [.cell 6 true 4]

/-- impl.eachVar -/
def c_impl_eachVar : C :=
  (.seq (.region [⟨none, .s (.box 2 none (.t 0))⟩])
  (.seq (.seq (.region [⟨none, .s (.v 4 (.faddr 0 false 1 (.t 2)))⟩,
    ⟨none, .s (.v 5 (.load false 1 (.t 4)))⟩,
    ⟨none, .s (.v 6 (.bin .eql false (.t 5) (.c (.int .i64 1))))⟩])
  (.cond (.t 6)
    (.region [⟨none, .s (.v 7 (.mov (.t 1)))⟩,
      ⟨none, .s (.v 8 (.faddr 1 false 1 (.t 2)))⟩,
      ⟨none, .s (.v 9 (.load false 1 (.t 8)))⟩,
      ⟨none, .call (some 10) (.t 7) [(.t 9)]⟩])
    .skip))
  (.seq (.region [⟨none, .s (.v 11 (.faddr 0 false 1 (.t 2)))⟩,
    ⟨none, .s (.v 12 (.load false 1 (.t 11)))⟩,
    ⟨none, .s (.v 13 (.bin .eql false (.t 12) (.c (.int .i64 4))))⟩])
  (.cond (.t 13)
    (.seq (.region [⟨none, .s (.v 14 (.faddr 3 false 1 (.t 2)))⟩,
      ⟨none, .s (.v 15 (.load false 1 (.t 14)))⟩,
      ⟨none, .s (.v 16 (.iaddr 4 (.t 15) (.c (.int .i64 0))))⟩,
      ⟨none, .s (.v 17 (.load true 4 (.t 16)))⟩,
      ⟨none, .s (.v 18 (.mov (.t 1)))⟩,
      ⟨none, .call (some 19) (.c (.func 70 [])) [(.t 17), (.t 18)]⟩])
    (.region [⟨none, .s (.v 20 (.faddr 3 false 1 (.t 2)))⟩,
      ⟨none, .s (.v 21 (.load false 1 (.t 20)))⟩,
      ⟨none, .s (.v 22 (.iaddr 4 (.t 21) (.c (.int .i64 1))))⟩,
      ⟨none, .s (.v 23 (.load true 4 (.t 22)))⟩,
      ⟨none, .s (.v 24 (.mov (.t 1)))⟩,
      ⟨none, .call (some 25) (.c (.func 70 [])) [(.t 23), (.t 24)]⟩]))
    .skip))))
def r_impl_eachVar : List RV := []

/-- impl.TermVars$1 -/
def c_impl_TermVars_1 : C :=
  (.region [⟨none, .s (.v 3 (.load false 1 (.t 1)))⟩,
    ⟨none, .s (.v 4 (.mov (.t 0)))⟩,
    ⟨none, .s (.mput false (.t 3) (.t 4) (.c (.bool true)))⟩])
def r_impl_TermVars_1 : List RV := []

/-- impl.sortedInts -/
def c_impl_sortedInts : C :=
  (.seq (.region [⟨none, .s (.v 2 (.mov (.c (.slice 1 .nil []))))⟩])
  (.seq (.region [⟨none, .s (.bslm 5 (some 306) 1 3 [])⟩,
    ⟨none, .s (.v 3 (.mov (.t 5)))⟩])
  (.seq (.seq (.region [⟨none, .s (.v 6 (.mov (.t 0)))⟩,
    ⟨none, .s (.range 7 none (.t 6))⟩])
  (.block 0 
    (.loop 
      (.seq (.region [⟨none, .next 8 (.t 7)⟩,
        ⟨none, .s (.v 9 (.ext 0 (.t 8)))⟩])
      (.seq (.cond (.t 9)
        .skip
        (.exit 0))
      (.block 1 
        (.seq (.region [⟨none, .s (.v 10 (.ment (.t 7)))⟩,
          ⟨none, .s (.v 11 (.ext 0 (.t 10)))⟩,
          ⟨none, .s (.v 4 (.mov (.t 11)))⟩])
        (.region [⟨none, .s (.v 12 (.mov (.t 3)))⟩,
          ⟨none, .s (.v 13 (.mov (.t 4)))⟩,
          ⟨none, .s (.bsl 14 1 3 [(.t 13)])⟩,
          ⟨none, .s (.appm 15 none 1 3 (.t 12) (.t 14))⟩,
          ⟨none, .s (.v 3 (.mov (.t 15)))⟩]))))))))
  (.seq (.region [⟨none, .s (.v 16 (.mov (.t 3)))⟩,
    ⟨none, .call (some 17) (.c (.func 120 [])) [(.t 16)]⟩])
  (.seq (.pub 3 (.region [⟨none, .s (.v 18 (.mov (.t 3)))⟩,
    ⟨none, .s (.v 2 (.mov (.t 18)))⟩]))
  .ret)))))
def r_impl_sortedInts : List RV := [.tmp 2]

/-- spec.l08Insert -/
def c_spec_l08Insert : C :=
  (.seq (.region [⟨none, .s (.box 3 none (.t 1))⟩,
    ⟨none, .s (.v 4 (.mov (.c (.slice 4 .nil []))))⟩])
  (.seq (.region [⟨none, .s (.v 7 (.mov (.t 0)))⟩,
    ⟨none, .s (.v 8 (.len (.t 7)))⟩,
    ⟨none, .s (.v 5 (.mov (.t 8)))⟩])
  (.seq (.block 0 
    (.loop 
      (.seq (.seq (.drawn true 50 [⟨none, .s (.v 9 (.mov (.t 5)))⟩,
        ⟨none, .s (.v 10 (.bin .gtr false (.t 9) (.c (.int .i64 0))))⟩,
        ⟨none, .s (.v 11 (.mov (.t 10)))⟩,
        ⟨(some (11, true)), .s (.v 12 (.mov (.t 0)))⟩,
        ⟨(some (11, true)), .s (.v 13 (.mov (.t 5)))⟩,
        ⟨(some (11, true)), .s (.v 14 (.bin .sub false (.t 13) (.c (.int .i64 1))))⟩,
        ⟨(some (11, true)), .s (.v 15 (.iaddr 4 (.t 12) (.t 14)))⟩,
        ⟨(some (11, true)), .s (.v 16 (.load true 4 (.t 15)))⟩,
        ⟨(some (11, true)), .s (.v 17 (.load true 4 (.t 3)))⟩,
        ⟨(some (11, true)), .call (some 18) (.c (.func 124 [])) [(.t 16), (.t 17)]⟩,
        ⟨(some (11, true)), .s (.v 19 (.bin .geq false (.t 18) (.c (.int .i64 0))))⟩,
        ⟨none, .s (.v 20 (.pick (.t 11) (.t 19) (.c (.bool false))))⟩])
      (.cond (.t 20)
        .skip
        (.exit 0)))
      (.block 1 
        (.region [⟨none, .s (.v 21 (.mov (.t 5)))⟩,
          ⟨none, .s (.v 22 (.bin .sub false (.t 21) (.c (.int .i64 1))))⟩,
          ⟨none, .s (.v 5 (.mov (.t 22)))⟩])))))
  (.seq (.seq (.drawn true 50 [⟨none, .s (.v 23 (.mov (.t 5)))⟩,
    ⟨none, .s (.v 24 (.mov (.t 0)))⟩,
    ⟨none, .s (.v 25 (.len (.t 24)))⟩,
    ⟨none, .s (.v 26 (.bin .lss false (.t 23) (.t 25)))⟩,
    ⟨none, .s (.v 27 (.mov (.t 26)))⟩,
    ⟨(some (27, true)), .s (.v 28 (.mov (.t 0)))⟩,
    ⟨(some (27, true)), .s (.v 29 (.mov (.t 5)))⟩,
    ⟨(some (27, true)), .s (.v 30 (.iaddr 4 (.t 28) (.t 29)))⟩,
    ⟨(some (27, true)), .s (.v 31 (.load true 4 (.t 30)))⟩,
    ⟨(some (27, true)), .s (.v 32 (.load true 4 (.t 3)))⟩,
    ⟨(some (27, true)), .call (some 33) (.c (.func 128 [])) [(.t 31), (.t 32)]⟩,
    ⟨none, .s (.v 34 (.pick (.t 27) (.t 33) (.c (.bool false))))⟩])
  (.cond (.t 34)
    (.seq (.region [⟨none, .s (.v 35 (.mov (.t 0)))⟩,
      ⟨none, .s (.v 4 (.mov (.t 35)))⟩])
    .ret)
    .skip))
  (.seq (.region [⟨none, .s (.bsl 36 4 26 [])⟩,
    ⟨none, .s (.v 37 (.mov (.t 0)))⟩,
    ⟨none, .s (.v 38 (.mov (.t 5)))⟩,
    ⟨none, .s (.v 39 (.lsl 4 (.t 37) none (some (.t 38))))⟩,
    ⟨none, .s (.app 40 4 26 (.t 36) (.t 39))⟩,
    ⟨none, .s (.v 6 (.mov (.t 40)))⟩])
  (.seq (.region [⟨none, .s (.v 41 (.mov (.t 6)))⟩,
    ⟨none, .s (.v 42 (.load true 4 (.t 3)))⟩,
    ⟨none, .s (.bsl 43 4 26 [(.t 42)])⟩,
    ⟨none, .s (.app 44 4 26 (.t 41) (.t 43))⟩,
    ⟨none, .s (.v 6 (.mov (.t 44)))⟩])
  (.seq (.region [⟨none, .s (.v 45 (.mov (.t 6)))⟩,
    ⟨none, .s (.v 46 (.mov (.t 0)))⟩,
    ⟨none, .s (.v 47 (.mov (.t 5)))⟩,
    ⟨none, .s (.v 48 (.lsl 4 (.t 46) (some (.t 47)) none))⟩,
    ⟨none, .s (.app 49 4 26 (.t 45) (.t 48))⟩,
    ⟨none, .s (.v 4 (.mov (.t 49)))⟩])
  .ret)))))))
def r_spec_l08Insert : List RV := [.tmp 4]

/-- spec.l01Below -/
def c_spec_l01Below : C :=
  (.seq (.region [⟨none, .s (.v 4 (.mov (.c (.int .i64 0))))⟩])
  (.seq (.seq (.region [⟨none, .s (.v 5 (.mov (.t 1)))⟩,
    ⟨none, .s (.v 6 (.bin .leq false (.t 5) (.c (.int .i64 0))))⟩])
  (.cond (.t 6)
    (.seq (.region [⟨none, .s (.v 4 (.mov (.c (.int .i64 0))))⟩])
    .ret)
    .skip))
  (.seq (.region [⟨none, .s (.v 7 (.mov (.t 0)))⟩,
    ⟨none, .call (some 8) (.c (.func 103 [])) [(.t 7)]⟩,
    ⟨none, .s (.v 9 (.mov (.t 1)))⟩,
    ⟨none, .s (.v 10 (.bin .rem false (.t 8) (.t 9)))⟩,
    ⟨none, .s (.v 4 (.mov (.t 10)))⟩])
  .ret)))
def r_spec_l01Below : List RV := [.tmp 4]

/-- spec.l01New -/
def c_spec_l01New : C :=
  (.seq (.region [⟨none, .s (.v 2 (.mov (.c (.nilp))))⟩])
  (.seq (.region [⟨none, .s (.v 5 (.mov (.t 0)))⟩,
    ⟨none, .s (.v 6 (.len (.t 5)))⟩,
    ⟨none, .s (.v 7 (.bin .add false (.c (.int .i64 90411)) (.t 6)))⟩,
    ⟨none, .s (.v 3 (.mov (.t 7)))⟩])
  (.seq (.seq (.region [⟨none, .s (.v 4 (.mov (.c (.int .i64 0))))⟩])
  (.block 0 
    (.loop 
      (.seq (.seq (.region [⟨none, .s (.v 8 (.mov (.t 4)))⟩,
        ⟨none, .s (.v 9 (.mov (.t 0)))⟩,
        ⟨none, .s (.v 10 (.len (.t 9)))⟩,
        ⟨none, .s (.v 11 (.bin .lss false (.t 8) (.t 10)))⟩,
        ⟨none, .s (.v 12 (.mov (.t 11)))⟩,
        ⟨(some (12, true)), .s (.v 13 (.mov (.t 4)))⟩,
        ⟨(some (12, true)), .s (.v 14 (.bin .lss false (.t 13) (.c (.int .i64 4000))))⟩,
        ⟨none, .s (.v 15 (.pick (.t 12) (.t 14) (.c (.bool false))))⟩])
      (.cond (.t 15)
        .skip
        (.exit 0)))
      (.seq (.block 1 
        (.region [⟨none, .s (.v 18 (.mov (.t 3)))⟩,
          ⟨none, .s (.v 19 (.bin .mul false (.t 18) (.c (.int .i64 131))))⟩,
          ⟨none, .s (.v 20 (.mov (.t 0)))⟩,
          ⟨none, .s (.v 21 (.mov (.t 4)))⟩,
          ⟨none, .s (.v 22 (.iaddr 1 (.t 20) (.t 21)))⟩,
          ⟨none, .s (.v 23 (.load false 1 (.t 22)))⟩,
          ⟨none, .s (.v 24 (.conv .i64 (.t 23)))⟩,
          ⟨none, .s (.v 25 (.bin .add false (.t 19) (.t 24)))⟩,
          ⟨none, .s (.v 26 (.bin .add false (.t 25) (.c (.int .i64 7))))⟩,
          ⟨none, .s (.v 27 (.bin .and false (.t 26) (.c (.int .i64 1073741823))))⟩,
          ⟨none, .s (.v 3 (.mov (.t 27)))⟩]))
      (.region [⟨none, .s (.v 16 (.mov (.t 4)))⟩,
        ⟨none, .s (.v 17 (.bin .add false (.t 16) (.c (.int .i64 1))))⟩,
        ⟨none, .s (.v 4 (.mov (.t 17)))⟩]))))))
  (.seq (.region [⟨none, .s (.v 28 (.mov (.t 0)))⟩,
    ⟨none, .s (.v 29 (.mov (.t 3)))⟩,
    ⟨none, .s (.v 30 (.build [.slice 1 .nil [], .int .i64 0, .int .i64 0] [(0, 1, (.t 28)), (2, 1, (.t 29))]))⟩,
    ⟨none, .s (.box 31 (some 401) (.t 30))⟩,
    ⟨none, .s (.v 2 (.mov (.t 31)))⟩])
  .ret))))
def r_spec_l01New : List RV := [.tmp 2]

/-- spec.l01Byte -/
def c_spec_l01Byte : C :=
  (.seq (.region [⟨none, .s (.v 2 (.mov (.c (.int .i64 0))))⟩])
  (.seq (.region [⟨none, .s (.v 4 (.mov (.t 0)))⟩,
    ⟨none, .s (.v 5 (.mov (.t 0)))⟩,
    ⟨none, .s (.v 6 (.nck (.t 5)))⟩,
    ⟨none, .s (.v 7 (.faddr 2 false 1 (.t 6)))⟩,
    ⟨none, .s (.v 8 (.load false 1 (.t 7)))⟩,
    ⟨none, .s (.v 9 (.bin .mul true (.t 8) (.c (.int .i64 6364136223846793005))))⟩,
    ⟨none, .s (.v 10 (.bin .add true (.t 9) (.c (.int .i64 1442695040888963407))))⟩,
    ⟨none, .s (.v 11 (.nck (.t 4)))⟩,
    ⟨none, .s (.v 12 (.faddr 2 false 1 (.t 11)))⟩,
    ⟨none, .s (.store 1 (.t 12) (.t 10))⟩])
  (.seq (.drawn true 58 [⟨none, .s (.v 13 (.mov (.t 0)))⟩,
    ⟨none, .s (.v 14 (.nck (.t 13)))⟩,
    ⟨none, .s (.v 15 (.faddr 2 false 1 (.t 14)))⟩,
    ⟨none, .s (.v 16 (.load false 1 (.t 15)))⟩,
    ⟨none, .s (.v 17 (.bin .shr false (.t 16) (.c (.int .u64 33))))⟩,
    ⟨none, .s (.v 18 (.mov (.t 0)))⟩,
    ⟨none, .s (.v 19 (.nck (.t 18)))⟩,
    ⟨none, .s (.v 20 (.faddr 2 false 1 (.t 19)))⟩,
    ⟨none, .s (.v 21 (.load false 1 (.t 20)))⟩,
    ⟨none, .s (.v 22 (.bin .shr false (.t 21) (.c (.int .u64 45))))⟩,
    ⟨none, .s (.v 23 (.bin .xor false (.t 17) (.t 22)))⟩,
    ⟨none, .s (.v 24 (.bin .and false (.t 23) (.c (.int .i64 255))))⟩,
    ⟨none, .s (.v 3 (.mov (.t 24)))⟩])
  (.seq (.seq (.drawn true 58 [⟨none, .s (.v 25 (.mov (.t 0)))⟩,
    ⟨none, .s (.v 26 (.nck (.t 25)))⟩,
    ⟨none, .s (.v 27 (.faddr 1 false 1 (.t 26)))⟩,
    ⟨none, .s (.v 28 (.load false 1 (.t 27)))⟩,
    ⟨none, .s (.v 29 (.mov (.t 0)))⟩,
    ⟨none, .s (.v 30 (.nck (.t 29)))⟩,
    ⟨none, .s (.v 31 (.faddr 0 false 1 (.t 30)))⟩,
    ⟨none, .s (.v 32 (.load false 1 (.t 31)))⟩,
    ⟨none, .s (.v 33 (.len (.t 32)))⟩,
    ⟨none, .s (.v 34 (.bin .lss false (.t 28) (.t 33)))⟩])
  (.cond (.t 34)
    (.seq (.drawn true 58 [⟨none, .s (.v 35 (.mov (.t 3)))⟩,
      ⟨none, .s (.v 36 (.mov (.t 0)))⟩,
      ⟨none, .s (.v 37 (.nck (.t 36)))⟩,
      ⟨none, .s (.v 38 (.faddr 0 false 1 (.t 37)))⟩,
      ⟨none, .s (.v 39 (.load false 1 (.t 38)))⟩,
      ⟨none, .s (.v 40 (.mov (.t 0)))⟩,
      ⟨none, .s (.v 41 (.nck (.t 40)))⟩,
      ⟨none, .s (.v 42 (.faddr 1 false 1 (.t 41)))⟩,
      ⟨none, .s (.v 43 (.load false 1 (.t 42)))⟩,
      ⟨none, .s (.v 44 (.iaddr 1 (.t 39) (.t 43)))⟩,
      ⟨none, .s (.v 45 (.load false 1 (.t 44)))⟩,
      ⟨none, .s (.v 46 (.conv .i64 (.t 45)))⟩,
      ⟨none, .s (.v 47 (.bin .add false (.t 35) (.t 46)))⟩,
      ⟨none, .s (.v 48 (.bin .and false (.t 47) (.c (.int .i64 255))))⟩,
      ⟨none, .s (.v 3 (.mov (.t 48)))⟩])
    (.region [⟨none, .s (.v 49 (.mov (.t 0)))⟩,
      ⟨none, .s (.v 50 (.mov (.t 0)))⟩,
      ⟨none, .s (.v 51 (.nck (.t 50)))⟩,
      ⟨none, .s (.v 52 (.faddr 1 false 1 (.t 51)))⟩,
      ⟨none, .s (.v 53 (.load false 1 (.t 52)))⟩,
      ⟨none, .s (.v 54 (.bin .add false (.t 53) (.c (.int .i64 1))))⟩,
      ⟨none, .s (.v 55 (.nck (.t 49)))⟩,
      ⟨none, .s (.v 56 (.faddr 1 false 1 (.t 55)))⟩,
      ⟨none, .s (.store 1 (.t 56) (.t 54))⟩]))
    .skip))
  (.seq (.region [⟨none, .s (.v 57 (.mov (.t 3)))⟩,
    ⟨none, .s (.v 2 (.mov (.t 57)))⟩])
  .ret)))))
def r_spec_l01Byte : List RV := [.tmp 2]

/-- spec.l02Pair -/
def c_spec_l02Pair : C :=
  (.seq (.region [⟨none, .s (.box 2 none (.t 0))⟩,
    ⟨none, .s (.box 3 none (.t 1))⟩,
    ⟨none, .s (.alloc 4 none (.agg [.int .i64 0, .int .i64 0, .str [], .slice 4 .nil []]))⟩])
  (.seq (.region [⟨none, .s (.v 5 (.load true 4 (.t 2)))⟩,
    ⟨none, .s (.v 6 (.load true 4 (.t 3)))⟩,
    ⟨none, .s (.bsl 7 4 26 [(.t 5), (.t 6)])⟩,
    ⟨none, .s (.v 8 (.build [.int .i64 0, .int .i64 0, .str [], .slice 4 .nil []] [(0, 1, (.c (.int .i64 4))), (3, 1, (.t 7))]))⟩,
    ⟨none, .s (.store 4 (.t 4) (.t 8))⟩])
  .ret))
def r_spec_l02Pair : List RV := [.cell 4 true 4]

/-- spec.l02Var -/
def c_spec_l02Var : C :=
  (.seq (.region [⟨none, .s (.alloc 2 none (.agg [.int .i64 0, .int .i64 0, .str [], .slice 4 .nil []]))⟩])
  (.seq (.region [⟨none, .s (.v 3 (.mov (.t 0)))⟩,
    ⟨none, .s (.v 4 (.build [.int .i64 0, .int .i64 0, .str [], .slice 4 .nil []] [(0, 1, (.c (.int .i64 1))), (1, 1, (.t 3))]))⟩,
    ⟨none, .s (.store 4 (.t 2) (.t 4))⟩])
  .ret))
def r_spec_l02Var : List RV := [.cell 2 true 4]

/-- spec.l02Atom -/
def c_spec_l02Atom : C :=
  (.seq (.region [⟨none, .s (.alloc 2 none (.agg [.int .i64 0, .int .i64 0, .str [], .slice 4 .nil []]))⟩])
  (.seq (.region [⟨none, .s (.v 4 (.mov (.t 0)))⟩,
    ⟨none, .call (some 5) (.c (.func 101 [])) [(.t 4), (.c (.int .i64 7))]⟩,
    ⟨none, .s (.v 3 (.mov (.t 5)))⟩])
  (.seq (.seq (.region [⟨none, .s (.v 6 (.mov (.t 3)))⟩,
    ⟨none, .s (.v 7 (.bin .lss false (.t 6) (.c (.int .i64 2))))⟩])
  (.cond (.t 7)
    (.seq (.region [⟨none, .s (.v 8 (.mov (.t 3)))⟩,
      ⟨none, .call (some 9) (.c (.func 144 [])) [(.t 8)]⟩,
      ⟨none, .s (.store 4 (.t 2) (.t 9))⟩])
    .ret)
    .skip))
  (.seq (.seq (.region [⟨none, .s (.v 10 (.mov (.t 3)))⟩,
    ⟨none, .s (.v 11 (.bin .lss false (.t 10) (.c (.int .i64 5))))⟩])
  (.cond (.t 11)
    (.seq (.region [⟨none, .s (.bsl 12 1 9 [(.c (.str [97])), (.c (.str [98])), (.c (.str [99]))])⟩,
      ⟨none, .s (.v 13 (.mov (.t 3)))⟩,
      ⟨none, .s (.v 14 (.bin .sub false (.t 13) (.c (.int .i64 2))))⟩,
      ⟨none, .s (.v 15 (.iaddr 1 (.t 12) (.t 14)))⟩,
      ⟨none, .s (.v 16 (.load false 1 (.t 15)))⟩,
      ⟨none, .call (some 17) (.c (.func 145 [])) [(.t 16)]⟩,
      ⟨none, .s (.store 4 (.t 2) (.t 17))⟩])
    .ret)
    .skip))
  (.seq (.region [⟨none, .s (.v 18 (.build [.int .i64 0, .int .i64 0, .str [], .slice 4 .nil []] []))⟩,
    ⟨none, .s (.store 4 (.t 2) (.t 18))⟩])
  .ret)))))
def r_spec_l02Atom : List RV := [.cell 2 true 4]

/-- spec.l04Get -/
def c_spec_l04Get : C :=
  (.seq (.region [⟨none, .s (.alloc 4 none (.agg [.int .i64 0, .int .i64 0, .str [], .slice 4 .nil []]))⟩,
    ⟨none, .s (.v 5 (.mov (.c (.bool false))))⟩])
  (.seq (.seq (.region [⟨none, .s (.v 8 (.mov (.t 0)))⟩,
    ⟨none, .s (.v 9 (.len (.t 8)))⟩,
    ⟨none, .s (.v 10 (.mov (.c (.int .i64 0))))⟩])
  (.block 0 
    (.loop 
      (.seq (.region [⟨none, .s (.v 11 (.bin .lss false (.t 10) (.t 9)))⟩])
      (.seq (.cond (.t 11)
        .skip
        (.exit 0))
      (.seq (.block 1 
        (.seq (.region [⟨none, .s (.v 12 (.iaddr 5 (.t 8) (.t 10)))⟩,
          ⟨none, .s (.v 13 (.load true 5 (.t 12)))⟩,
          ⟨none, .s (.alloc 7 none (.agg [.int .i64 0, .int .i64 0, .int .i64 0, .str [], .slice 4 .nil []]))⟩,
          ⟨none, .s (.store 5 (.t 7) (.t 13))⟩])
        (.seq (.region [⟨none, .s (.v 14 (.faddr 0 false 1 (.t 7)))⟩,
          ⟨none, .s (.v 15 (.load false 1 (.t 14)))⟩,
          ⟨none, .s (.v 16 (.mov (.t 1)))⟩,
          ⟨none, .s (.v 17 (.bin .eql false (.t 15) (.t 16)))⟩])
        (.cond (.t 17)
          (.seq (.region [⟨none, .s (.v 18 (.faddr 1 true 4 (.t 7)))⟩,
            ⟨none, .s (.v 19 (.load true 4 (.t 18)))⟩,
            ⟨none, .s (.store 4 (.t 4) (.t 19))⟩,
            ⟨none, .s (.v 5 (.mov (.c (.bool true))))⟩])
          .ret)
          .skip))))
      (.region [⟨none, .s (.v 20 (.bin .add false (.t 10) (.c (.int .i64 1))))⟩,
        ⟨none, .s (.v 10 (.mov (.t 20)))⟩])))))))
  (.seq (.region [⟨none, .s (.v 21 (.build [.int .i64 0, .int .i64 0, .str [], .slice 4 .nil []] []))⟩,
    ⟨none, .s (.store 4 (.t 4) (.t 21))⟩,
    ⟨none, .s (.v 5 (.mov (.c (.bool false))))⟩])
  .ret)))
def r_spec_l04Get : List RV := [.cell 4 true 4, .tmp 5]

/-- impl.nodesOf -/
def c_impl_nodesOf : C :=
  (.seq (.region [⟨none, .s (.box 2 none (.t 0))⟩,
    ⟨none, .s (.v 4 (.mov (.c (.int .i64 0))))⟩])
  (.seq (.seq (.region [⟨none, .s (.v 7 (.mov (.t 1)))⟩,
    ⟨none, .s (.v 8 (.bin .lss false (.t 7) (.c (.int .i64 1))))⟩])
  (.cond (.t 8)
    (.seq (.region [⟨none, .s (.v 4 (.mov (.c (.int .i64 (-1)))))⟩])
    .ret)
    .skip))
  (.seq (.seq (.region [⟨none, .s (.v 9 (.faddr 0 false 1 (.t 2)))⟩,
    ⟨none, .s (.v 10 (.load false 1 (.t 9)))⟩,
    ⟨none, .s (.v 11 (.bin .neq false (.t 10) (.c (.int .i64 4))))⟩])
  (.cond (.t 11)
    (.seq (.seq (.region [⟨none, .s (.v 12 (.faddr 3 false 1 (.t 2)))⟩,
      ⟨none, .s (.v 13 (.load false 1 (.t 12)))⟩,
      ⟨none, .s (.v 14 (.len (.t 13)))⟩,
      ⟨none, .s (.v 15 (.bin .neq false (.t 14) (.c (.int .i64 0))))⟩])
    (.cond (.t 15)
      (.seq (.region [⟨none, .s (.v 4 (.mov (.c (.int .i64 (-1)))))⟩])
      .ret)
      .skip))
    (.seq (.seq (.region [⟨none, .s (.v 16 (.faddr 0 false 1 (.t 2)))⟩,
      ⟨none, .s (.v 17 (.load false 1 (.t 16)))⟩])
    (.block 0 
      (.seq (.region [⟨none, .s (.v 19 (.bin .eql false (.t 17) (.c (.int .i64 0))))⟩,
        ⟨none, .s (.v 18 (.mov (.t 19)))⟩])
      (.cond (.t 18)
        (.seq (.region [⟨none, .s (.v 20 (.faddr 1 false 1 (.t 2)))⟩,
          ⟨none, .s (.v 21 (.load false 1 (.t 20)))⟩,
          ⟨none, .s (.v 22 (.bin .neq false (.t 21) (.c (.int .i64 0))))⟩,
          ⟨none, .s (.v 23 (.mov (.t 22)))⟩,
          ⟨(some (23, false)), .s (.v 24 (.faddr 2 false 1 (.t 2)))⟩,
          ⟨(some (23, false)), .s (.v 25 (.load false 1 (.t 24)))⟩,
          ⟨(some (23, false)), .s (.v 26 (.bin .neq false (.t 25) (.c (.str []))))⟩,
          ⟨none, .s (.v 27 (.pick (.t 23) (.c (.bool true)) (.t 26)))⟩])
        (.cond (.t 27)
          (.seq (.region [⟨none, .s (.v 4 (.mov (.c (.int .i64 (-1)))))⟩])
          .ret)
          .skip))
        (.seq (.region [⟨none, .s (.v 29 (.bin .eql false (.t 17) (.c (.int .i64 1))))⟩,
          ⟨none, .s (.v 28 (.mov (.t 29)))⟩])
        (.cond (.t 28)
          (.seq (.region [⟨none, .s (.v 30 (.faddr 1 false 1 (.t 2)))⟩,
            ⟨none, .s (.v 31 (.load false 1 (.t 30)))⟩,
            ⟨none, .s (.v 32 (.bin .lss false (.t 31) (.c (.int .i64 0))))⟩,
            ⟨none, .s (.v 33 (.mov (.t 32)))⟩,
            ⟨(some (33, false)), .s (.v 34 (.faddr 1 false 1 (.t 2)))⟩,
            ⟨(some (33, false)), .s (.v 35 (.load false 1 (.t 34)))⟩,
            ⟨(some (33, false)), .s (.v 36 (.bin .gtr false (.t 35) (.c (.int .i64 100000))))⟩,
            ⟨none, .s (.v 37 (.pick (.t 33) (.c (.bool true)) (.t 36)))⟩,
            ⟨none, .s (.v 38 (.mov (.t 37)))⟩,
            ⟨(some (38, false)), .s (.v 39 (.faddr 2 false 1 (.t 2)))⟩,
            ⟨(some (38, false)), .s (.v 40 (.load false 1 (.t 39)))⟩,
            ⟨(some (38, false)), .s (.v 41 (.bin .neq false (.t 40) (.c (.str []))))⟩,
            ⟨none, .s (.v 42 (.pick (.t 38) (.c (.bool true)) (.t 41)))⟩])
          (.cond (.t 42)
            (.seq (.region [⟨none, .s (.v 4 (.mov (.c (.int .i64 (-1)))))⟩])
            .ret)
            .skip))
          (.seq (.region [⟨none, .s (.v 44 (.bin .eql false (.t 17) (.c (.int .i64 2))))⟩,
            ⟨none, .s (.v 43 (.mov (.t 44)))⟩])
          (.cond (.t 43)
            (.seq (.region [⟨none, .s (.v 45 (.faddr 1 false 1 (.t 2)))⟩,
              ⟨none, .s (.v 46 (.load false 1 (.t 45)))⟩,
              ⟨none, .s (.v 47 (.bin .neq false (.t 46) (.c (.int .i64 0))))⟩,
              ⟨none, .s (.v 48 (.mov (.t 47)))⟩,
              ⟨(some (48, false)), .s (.v 49 (.faddr 2 false 1 (.t 2)))⟩,
              ⟨(some (48, false)), .s (.v 50 (.load false 1 (.t 49)))⟩,
              ⟨(some (48, false)), .call (some 51) (.c (.func 146 [])) [(.t 50)]⟩,
              ⟨(some (48, false)), .s (.v 52 (.notB (.t 51)))⟩,
              ⟨none, .s (.v 53 (.pick (.t 48) (.c (.bool true)) (.t 52)))⟩])
            (.cond (.t 53)
              (.seq (.region [⟨none, .s (.v 4 (.mov (.c (.int .i64 (-1)))))⟩])
              .ret)
              .skip))
            (.seq (.region [⟨none, .s (.v 55 (.bin .eql false (.t 17) (.c (.int .i64 3))))⟩,
              ⟨none, .s (.v 54 (.mov (.t 55)))⟩])
            (.cond (.t 54)
              (.seq (.region [⟨none, .s (.v 56 (.faddr 1 false 1 (.t 2)))⟩,
                ⟨none, .s (.v 57 (.load false 1 (.t 56)))⟩,
                ⟨none, .s (.v 58 (.bin .lss false (.t 57) (.c (.int .i64 (-1000000000)))))⟩,
                ⟨none, .s (.v 59 (.mov (.t 58)))⟩,
                ⟨(some (59, false)), .s (.v 60 (.faddr 1 false 1 (.t 2)))⟩,
                ⟨(some (59, false)), .s (.v 61 (.load false 1 (.t 60)))⟩,
                ⟨(some (59, false)), .s (.v 62 (.bin .gtr false (.t 61) (.c (.int .i64 1000000000))))⟩,
                ⟨none, .s (.v 63 (.pick (.t 59) (.c (.bool true)) (.t 62)))⟩,
                ⟨none, .s (.v 64 (.mov (.t 63)))⟩,
                ⟨(some (64, false)), .s (.v 65 (.faddr 2 false 1 (.t 2)))⟩,
                ⟨(some (64, false)), .s (.v 66 (.load false 1 (.t 65)))⟩,
                ⟨(some (64, false)), .s (.v 67 (.bin .neq false (.t 66) (.c (.str []))))⟩,
                ⟨none, .s (.v 68 (.pick (.t 64) (.c (.bool true)) (.t 67)))⟩])
              (.cond (.t 68)
                (.seq (.region [⟨none, .s (.v 4 (.mov (.c (.int .i64 (-1)))))⟩])
                .ret)
                .skip))
              (.seq (.region [⟨none, .s (.v 4 (.mov (.c (.int .i64 (-1)))))⟩])
              .ret)))))))))))
    (.seq (.region [⟨none, .s (.v 4 (.mov (.c (.int .i64 1))))⟩])
    .ret)))
    .skip))
  (.seq (.seq (.region [⟨none, .s (.v 69 (.faddr 1 false 1 (.t 2)))⟩,
    ⟨none, .s (.v 70 (.load false 1 (.t 69)))⟩,
    ⟨none, .s (.v 71 (.bin .neq false (.t 70) (.c (.int .i64 0))))⟩,
    ⟨none, .s (.v 72 (.mov (.t 71)))⟩,
    ⟨(some (72, false)), .s (.v 73 (.faddr 2 false 1 (.t 2)))⟩,
    ⟨(some (72, false)), .s (.v 74 (.load false 1 (.t 73)))⟩,
    ⟨(some (72, false)), .s (.v 75 (.bin .neq false (.t 74) (.c (.str []))))⟩,
    ⟨none, .s (.v 76 (.pick (.t 72) (.c (.bool true)) (.t 75)))⟩,
    ⟨none, .s (.v 77 (.mov (.t 76)))⟩,
    ⟨(some (77, false)), .s (.v 78 (.faddr 3 false 1 (.t 2)))⟩,
    ⟨(some (77, false)), .s (.v 79 (.load false 1 (.t 78)))⟩,
    ⟨(some (77, false)), .s (.v 80 (.len (.t 79)))⟩,
    ⟨(some (77, false)), .s (.v 81 (.bin .neq false (.t 80) (.c (.int .i64 2))))⟩,
    ⟨none, .s (.v 82 (.pick (.t 77) (.c (.bool true)) (.t 81)))⟩])
  (.cond (.t 82)
    (.seq (.region [⟨none, .s (.v 4 (.mov (.c (.int .i64 (-1)))))⟩])
    .ret)
    .skip))
  (.seq (.region [⟨none, .s (.v 83 (.faddr 3 false 1 (.t 2)))⟩,
    ⟨none, .s (.v 84 (.load false 1 (.t 83)))⟩,
    ⟨none, .s (.v 85 (.iaddr 4 (.t 84) (.c (.int .i64 0))))⟩,
    ⟨none, .s (.v 86 (.load true 4 (.t 85)))⟩,
    ⟨none, .s (.v 87 (.mov (.t 1)))⟩,
    ⟨none, .s (.v 88 (.bin .sub false (.t 87) (.c (.int .i64 1))))⟩,
    ⟨none, .call (some 89) (.c (.func 108 [])) [(.t 86), (.t 88)]⟩,
    ⟨none, .s (.v 5 (.mov (.t 89)))⟩])
  (.seq (.seq (.region [⟨none, .s (.v 90 (.mov (.t 5)))⟩,
    ⟨none, .s (.v 91 (.bin .lss false (.t 90) (.c (.int .i64 0))))⟩])
  (.cond (.t 91)
    (.seq (.region [⟨none, .s (.v 4 (.mov (.c (.int .i64 (-1)))))⟩])
    .ret)
    .skip))
  (.seq (.region [⟨none, .s (.v 92 (.faddr 3 false 1 (.t 2)))⟩,
    ⟨none, .s (.v 93 (.load false 1 (.t 92)))⟩,
    ⟨none, .s (.v 94 (.iaddr 4 (.t 93) (.c (.int .i64 1))))⟩,
    ⟨none, .s (.v 95 (.load true 4 (.t 94)))⟩,
    ⟨none, .s (.v 96 (.mov (.t 1)))⟩,
    ⟨none, .s (.v 97 (.bin .sub false (.t 96) (.c (.int .i64 1))))⟩,
    ⟨none, .s (.v 98 (.mov (.t 5)))⟩,
    ⟨none, .s (.v 99 (.bin .sub false (.t 97) (.t 98)))⟩,
    ⟨none, .call (some 100) (.c (.func 108 [])) [(.t 95), (.t 99)]⟩,
    ⟨none, .s (.v 6 (.mov (.t 100)))⟩])
  (.seq (.seq (.region [⟨none, .s (.v 101 (.mov (.t 6)))⟩,
    ⟨none, .s (.v 102 (.bin .lss false (.t 101) (.c (.int .i64 0))))⟩])
  (.cond (.t 102)
    (.seq (.region [⟨none, .s (.v 4 (.mov (.c (.int .i64 (-1)))))⟩])
    .ret)
    .skip))
  (.seq (.region [⟨none, .s (.v 103 (.mov (.t 5)))⟩,
    ⟨none, .s (.v 104 (.bin .add false (.c (.int .i64 1)) (.t 103)))⟩,
    ⟨none, .s (.v 105 (.mov (.t 6)))⟩,
    ⟨none, .s (.v 106 (.bin .add false (.t 104) (.t 105)))⟩,
    ⟨none, .s (.v 4 (.mov (.t 106)))⟩])
  .ret)))))))))
def r_impl_nodesOf : List RV := [.tmp 4]

/-- impl.replaced -/
def c_impl_replaced : C :=
  (.seq (.region [⟨none, .s (.box 2 none (.t 0))⟩,
    ⟨none, .s (.box 3 (some 202) (.t 1))⟩,
    ⟨none, .s (.alloc 4 none (.agg [.int .i64 0, .int .i64 0, .str [], .slice 4 .nil []]))⟩,
    ⟨none, .s (.v 5 (.mov (.c (.bool false))))⟩])
  (.seq (.region [⟨none, .s (.v 7 (.load true 4 (.t 2)))⟩,
    ⟨none, .s (.v 8 (.mkf 148 [(.t 3)]))⟩,
    ⟨none, .call (some 9) (.c (.func 147 [])) [(.t 7), (.t 8)]⟩,
    ⟨none, .s (.v 6 (.mov (.t 9)))⟩])
  (.seq (.seq (.region [⟨none, .s (.v 10 (.mov (.t 6)))⟩,
    ⟨none, .s (.v 11 (.bin .gtr false (.t 10) (.c (.int .i64 5000))))⟩])
  (.cond (.t 11)
    (.seq (.region [⟨none, .s (.v 12 (.build [.int .i64 0, .int .i64 0, .str [], .slice 4 .nil []] []))⟩,
      ⟨none, .s (.store 4 (.t 4) (.t 12))⟩,
      ⟨none, .s (.v 5 (.mov (.c (.bool false))))⟩])
    .ret)
    .skip))
  (.seq (.region [⟨none, .s (.v 13 (.load true 4 (.t 2)))⟩,
    ⟨none, .s (.v 14 (.load false 1 (.t 3)))⟩,
    ⟨none, .call (some 15) (.c (.func 149 [])) [(.t 13), (.t 14)]⟩,
    ⟨none, .s (.store 4 (.t 4) (.t 15))⟩,
    ⟨none, .s (.v 5 (.mov (.c (.bool true))))⟩])
  .ret))))
def r_impl_replaced : List RV := [.cell 4 true 4, .tmp 5]

/-- impl.put$1 -/
def c_impl_put_1 : C :=
  (.seq (.region [⟨none, .s (.alloc 3 none (.agg [.int .i64 0, .int .i64 0, .str [], .slice 4 .nil []]))⟩,
    ⟨none, .s (.v 4 (.mov (.c (.bool false))))⟩])
  (.seq (.seq (.region [⟨none, .s (.v 6 (.load false 1 (.t 1)))⟩,
    ⟨none, .s (.v 7 (.mov (.t 0)))⟩,
    ⟨none, .call (some 8) (.c (.func 111 [])) [(.t 6), (.t 7)]⟩,
    ⟨none, .s (.v 5 (.mov (.t 8)))⟩])
  (.seq (.region [⟨none, .s (.v 9 (.mov (.t 5)))⟩,
    ⟨none, .s (.v 10 (.bin .geq false (.t 9) (.c (.int .i64 0))))⟩])
  (.cond (.t 10)
    (.seq (.region [⟨none, .s (.v 11 (.load false 1 (.t 1)))⟩,
      ⟨none, .s (.v 12 (.mov (.t 5)))⟩,
      ⟨none, .s (.v 13 (.iaddr 5 (.t 11) (.t 12)))⟩,
      ⟨none, .s (.v 14 (.faddr 1 true 4 (.t 13)))⟩,
      ⟨none, .s (.v 15 (.load true 4 (.t 14)))⟩,
      ⟨none, .s (.store 4 (.t 3) (.t 15))⟩,
      ⟨none, .s (.v 4 (.mov (.c (.bool true))))⟩])
    .ret)
    .skip)))
  (.seq (.region [⟨none, .s (.v 16 (.build [.int .i64 0, .int .i64 0, .str [], .slice 4 .nil []] []))⟩,
    ⟨none, .s (.store 4 (.t 3) (.t 16))⟩,
    ⟨none, .s (.v 4 (.mov (.c (.bool false))))⟩])
  .ret)))
def r_impl_put_1 : List RV := [.cell 3 true 4, .tmp 4]

/-- impl.find -/
def c_impl_find : C :=
  (.seq (.region [⟨none, .s (.box 2 (some 101) (.t 0))⟩,
    ⟨none, .s (.box 3 (some 102) (.t 1))⟩,
    ⟨none, .s (.v 4 (.mov (.c (.int .i64 0))))⟩])
  (.seq (.region [⟨none, .s (.v 6 (.load false 1 (.t 2)))⟩,
    ⟨none, .s (.v 7 (.len (.t 6)))⟩,
    ⟨none, .s (.v 8 (.mkf 151 [(.t 2), (.t 3)]))⟩,
    ⟨none, .call (some 9) (.c (.func 150 [])) [(.t 7), (.t 8)]⟩,
    ⟨none, .s (.v 5 (.mov (.t 9)))⟩])
  (.seq (.seq (.drawn true 24 [⟨none, .s (.v 10 (.mov (.t 5)))⟩,
    ⟨none, .s (.v 11 (.load false 1 (.t 2)))⟩,
    ⟨none, .s (.v 12 (.len (.t 11)))⟩,
    ⟨none, .s (.v 13 (.bin .lss false (.t 10) (.t 12)))⟩,
    ⟨none, .s (.v 14 (.mov (.t 13)))⟩,
    ⟨(some (14, true)), .s (.v 15 (.load false 1 (.t 2)))⟩,
    ⟨(some (14, true)), .s (.v 16 (.mov (.t 5)))⟩,
    ⟨(some (14, true)), .s (.v 17 (.iaddr 5 (.t 15) (.t 16)))⟩,
    ⟨(some (14, true)), .s (.v 18 (.faddr 0 false 1 (.t 17)))⟩,
    ⟨(some (14, true)), .s (.v 19 (.load false 1 (.t 18)))⟩,
    ⟨(some (14, true)), .s (.v 20 (.load false 1 (.t 3)))⟩,
    ⟨(some (14, true)), .s (.v 21 (.bin .eql false (.t 19) (.t 20)))⟩,
    ⟨none, .s (.v 22 (.pick (.t 14) (.t 21) (.c (.bool false))))⟩])
  (.cond (.t 22)
    (.seq (.region [⟨none, .s (.v 23 (.mov (.t 5)))⟩,
      ⟨none, .s (.v 4 (.mov (.t 23)))⟩])
    .ret)
    .skip))
  (.seq (.region [⟨none, .s (.v 4 (.mov (.c (.int .i64 (-1)))))⟩])
  .ret))))
def r_impl_find : List RV := [.tmp 4]

/-- impl.ascending$1 -/
def c_impl_ascending_1 : C :=
  (.seq (.region [⟨none, .s (.v 5 (.mov (.c (.bool false))))⟩])
  (.seq (.drawn true 16 [⟨none, .s (.v 6 (.load false 1 (.t 2)))⟩,
    ⟨none, .s (.v 7 (.mov (.t 0)))⟩,
    ⟨none, .s (.v 8 (.iaddr 4 (.t 6) (.t 7)))⟩,
    ⟨none, .s (.v 9 (.load true 4 (.t 8)))⟩,
    ⟨none, .s (.v 10 (.load false 1 (.t 2)))⟩,
    ⟨none, .s (.v 11 (.mov (.t 1)))⟩,
    ⟨none, .s (.v 12 (.iaddr 4 (.t 10) (.t 11)))⟩,
    ⟨none, .s (.v 13 (.load true 4 (.t 12)))⟩,
    ⟨none, .call (some 14) (.c (.func 59 [])) [(.t 9), (.t 13)]⟩,
    ⟨none, .s (.v 15 (.bin .lss false (.t 14) (.c (.int .i64 0))))⟩,
    ⟨none, .s (.v 5 (.mov (.t 15)))⟩])
  .ret))
def r_impl_ascending_1 : List RV := [.tmp 5]

/-- impl.equalTerms -/
def c_impl_equalTerms : C :=
  (.seq (.region [⟨none, .s (.box 2 none (.t 0))⟩,
    ⟨none, .s (.box 3 none (.t 1))⟩,
    ⟨none, .s (.v 4 (.mov (.c (.bool false))))⟩])
  (.seq (.region [⟨none, .s (.v 5 (.load true 4 (.t 2)))⟩,
    ⟨none, .s (.v 6 (.load true 4 (.t 3)))⟩,
    ⟨none, .call (some 7) (.c (.func 59 [])) [(.t 5), (.t 6)]⟩,
    ⟨none, .s (.v 8 (.bin .eql false (.t 7) (.c (.int .i64 0))))⟩,
    ⟨none, .s (.v 4 (.mov (.t 8)))⟩])
  .ret))
def r_impl_equalTerms : List RV := [.tmp 4]

/-- impl.orderInts -/
def c_impl_orderInts : C :=
  (.seq (.region [⟨none, .s (.v 4 (.mov (.c (.int .i64 0))))⟩])
  (.seq (.seq (.region [⟨none, .s (.v 5 (.mov (.t 0)))⟩,
    ⟨none, .s (.v 6 (.mov (.t 1)))⟩,
    ⟨none, .s (.v 7 (.bin .lss false (.t 5) (.t 6)))⟩])
  (.cond (.t 7)
    (.seq (.region [⟨none, .s (.v 4 (.mov (.c (.int .i64 (-1)))))⟩])
    .ret)
    .skip))
  (.seq (.seq (.region [⟨none, .s (.v 8 (.mov (.t 0)))⟩,
    ⟨none, .s (.v 9 (.mov (.t 1)))⟩,
    ⟨none, .s (.v 10 (.bin .gtr false (.t 8) (.t 9)))⟩])
  (.cond (.t 10)
    (.seq (.region [⟨none, .s (.v 4 (.mov (.c (.int .i64 1))))⟩])
    .ret)
    .skip))
  (.seq (.region [⟨none, .s (.v 4 (.mov (.c (.int .i64 0))))⟩])
  .ret))))
def r_impl_orderInts : List RV := [.tmp 4]

/-- impl.isGround$1 -/
def c_impl_isGround_1 : C :=
  (.region [⟨none, .s (.store 1 (.t 1) (.c (.bool false)))⟩])
def r_impl_isGround_1 : List RV := []

/-- impl.sortBindings$1 -/
def c_impl_sortBindings_1 : C :=
  (.seq (.region [⟨none, .s (.v 5 (.mov (.c (.bool false))))⟩])
  (.seq (.drawn true 17 [⟨none, .s (.v 6 (.load false 1 (.t 2)))⟩,
    ⟨none, .s (.v 7 (.mov (.t 0)))⟩,
    ⟨none, .s (.v 8 (.iaddr 5 (.t 6) (.t 7)))⟩,
    ⟨none, .s (.v 9 (.faddr 0 false 1 (.t 8)))⟩,
    ⟨none, .s (.v 10 (.load false 1 (.t 9)))⟩,
    ⟨none, .s (.v 11 (.load false 1 (.t 2)))⟩,
    ⟨none, .s (.v 12 (.mov (.t 1)))⟩,
    ⟨none, .s (.v 13 (.iaddr 5 (.t 11) (.t 12)))⟩,
    ⟨none, .s (.v 14 (.faddr 0 false 1 (.t 13)))⟩,
    ⟨none, .s (.v 15 (.load false 1 (.t 14)))⟩,
    ⟨none, .s (.v 16 (.bin .lss false (.t 10) (.t 15)))⟩,
    ⟨none, .s (.v 5 (.mov (.t 16)))⟩])
  .ret))
def r_impl_sortBindings_1 : List RV := [.tmp 5]

/-- spec.l01Once -/
def c_spec_l01Once : C :=
  (.seq (.region [⟨none, .s (.v 4 (.mov (.c (.bool false))))⟩])
  (.seq (.region [⟨none, .s (.v 5 (.mov (.t 0)))⟩,
    ⟨none, .s (.v 6 (.mov (.t 1)))⟩,
    ⟨none, .call (some 7) (.c (.func 101 [])) [(.t 5), (.t 6)]⟩,
    ⟨none, .s (.v 8 (.bin .eql false (.t 7) (.c (.int .i64 0))))⟩,
    ⟨none, .s (.v 4 (.mov (.t 8)))⟩])
  .ret))
def r_spec_l01Once : List RV := [.tmp 4]

/-- spec.l02Cmp -/
def c_spec_l02Cmp : C :=
  (.seq (.region [⟨none, .s (.box 2 none (.t 0))⟩,
    ⟨none, .s (.box 3 none (.t 1))⟩,
    ⟨none, .s (.v 4 (.mov (.c (.int .i64 0))))⟩])
  (.seq (.seq (.region [⟨none, .s (.v 7 (.faddr 0 false 1 (.t 2)))⟩,
    ⟨none, .s (.v 8 (.load false 1 (.t 7)))⟩,
    ⟨none, .s (.v 9 (.faddr 0 false 1 (.t 3)))⟩,
    ⟨none, .s (.v 10 (.load false 1 (.t 9)))⟩,
    ⟨none, .s (.v 11 (.bin .neq false (.t 8) (.t 10)))⟩])
  (.cond (.t 11)
    (.seq (.region [⟨none, .s (.v 12 (.faddr 0 false 1 (.t 2)))⟩,
      ⟨none, .s (.v 13 (.load false 1 (.t 12)))⟩,
      ⟨none, .s (.v 14 (.faddr 0 false 1 (.t 3)))⟩,
      ⟨none, .s (.v 15 (.load false 1 (.t 14)))⟩,
      ⟨none, .s (.v 16 (.bin .lss false (.t 13) (.t 15)))⟩,
      ⟨none, .call (some 17) (.c (.func 160 [])) [(.t 16)]⟩,
      ⟨none, .s (.v 4 (.mov (.t 17)))⟩])
    .ret)
    .skip))
  (.seq (.seq (.region [⟨none, .s (.v 18 (.faddr 1 false 1 (.t 2)))⟩,
    ⟨none, .s (.v 19 (.load false 1 (.t 18)))⟩,
    ⟨none, .s (.v 20 (.faddr 1 false 1 (.t 3)))⟩,
    ⟨none, .s (.v 21 (.load false 1 (.t 20)))⟩,
    ⟨none, .s (.v 22 (.bin .neq false (.t 19) (.t 21)))⟩])
  (.cond (.t 22)
    (.seq (.region [⟨none, .s (.v 23 (.faddr 1 false 1 (.t 2)))⟩,
      ⟨none, .s (.v 24 (.load false 1 (.t 23)))⟩,
      ⟨none, .s (.v 25 (.faddr 1 false 1 (.t 3)))⟩,
      ⟨none, .s (.v 26 (.load false 1 (.t 25)))⟩,
      ⟨none, .s (.v 27 (.bin .lss false (.t 24) (.t 26)))⟩,
      ⟨none, .call (some 28) (.c (.func 160 [])) [(.t 27)]⟩,
      ⟨none, .s (.v 4 (.mov (.t 28)))⟩])
    .ret)
    .skip))
  (.seq (.seq (.region [⟨none, .s (.v 29 (.faddr 2 false 1 (.t 2)))⟩,
    ⟨none, .s (.v 30 (.load false 1 (.t 29)))⟩,
    ⟨none, .s (.v 31 (.faddr 2 false 1 (.t 3)))⟩,
    ⟨none, .s (.v 32 (.load false 1 (.t 31)))⟩,
    ⟨none, .s (.v 33 (.bin .neq false (.t 30) (.t 32)))⟩])
  (.cond (.t 33)
    (.seq (.region [⟨none, .s (.v 34 (.faddr 2 false 1 (.t 2)))⟩,
      ⟨none, .s (.v 35 (.load false 1 (.t 34)))⟩,
      ⟨none, .s (.v 36 (.faddr 2 false 1 (.t 3)))⟩,
      ⟨none, .s (.v 37 (.load false 1 (.t 36)))⟩,
      ⟨none, .s (.v 38 (.bin .lss false (.t 35) (.t 37)))⟩,
      ⟨none, .call (some 39) (.c (.func 160 [])) [(.t 38)]⟩,
      ⟨none, .s (.v 4 (.mov (.t 39)))⟩])
    .ret)
    .skip))
  (.seq (.seq (.region [⟨none, .s (.v 5 (.mov (.c (.int .i64 0))))⟩])
  (.block 0 
    (.loop 
      (.seq (.seq (.region [⟨none, .s (.v 40 (.mov (.t 5)))⟩,
        ⟨none, .s (.v 41 (.faddr 3 false 1 (.t 2)))⟩,
        ⟨none, .s (.v 42 (.load false 1 (.t 41)))⟩,
        ⟨none, .s (.v 43 (.len (.t 42)))⟩,
        ⟨none, .s (.v 44 (.bin .lss false (.t 40) (.t 43)))⟩,
        ⟨none, .s (.v 45 (.mov (.t 44)))⟩,
        ⟨(some (45, true)), .s (.v 46 (.mov (.t 5)))⟩,
        ⟨(some (45, true)), .s (.v 47 (.faddr 3 false 1 (.t 3)))⟩,
        ⟨(some (45, true)), .s (.v 48 (.load false 1 (.t 47)))⟩,
        ⟨(some (45, true)), .s (.v 49 (.len (.t 48)))⟩,
        ⟨(some (45, true)), .s (.v 50 (.bin .lss false (.t 46) (.t 49)))⟩,
        ⟨none, .s (.v 51 (.pick (.t 45) (.t 50) (.c (.bool false))))⟩])
      (.cond (.t 51)
        .skip
        (.exit 0)))
      (.seq (.block 1 
        (.seq (.drawn true 68 [⟨none, .s (.v 54 (.faddr 3 false 1 (.t 2)))⟩,
          ⟨none, .s (.v 55 (.load false 1 (.t 54)))⟩,
          ⟨none, .s (.v 56 (.mov (.t 5)))⟩,
          ⟨none, .s (.v 57 (.iaddr 4 (.t 55) (.t 56)))⟩,
          ⟨none, .s (.v 58 (.load true 4 (.t 57)))⟩,
          ⟨none, .s (.v 59 (.faddr 3 false 1 (.t 3)))⟩,
          ⟨none, .s (.v 60 (.load false 1 (.t 59)))⟩,
          ⟨none, .s (.v 61 (.mov (.t 5)))⟩,
          ⟨none, .s (.v 62 (.iaddr 4 (.t 60) (.t 61)))⟩,
          ⟨none, .s (.v 63 (.load true 4 (.t 62)))⟩,
          ⟨none, .call (some 64) (.c (.func 124 [])) [(.t 58), (.t 63)]⟩,
          ⟨none, .s (.v 6 (.mov (.t 64)))⟩])
        (.seq (.region [⟨none, .s (.v 65 (.mov (.t 6)))⟩,
          ⟨none, .s (.v 66 (.bin .neq false (.t 65) (.c (.int .i64 0))))⟩])
        (.cond (.t 66)
          (.seq (.region [⟨none, .s (.v 67 (.mov (.t 6)))⟩,
            ⟨none, .s (.v 4 (.mov (.t 67)))⟩])
          .ret)
          .skip))))
      (.region [⟨none, .s (.v 52 (.mov (.t 5)))⟩,
        ⟨none, .s (.v 53 (.bin .add false (.t 52) (.c (.int .i64 1))))⟩,
        ⟨none, .s (.v 5 (.mov (.t 53)))⟩]))))))
  (.seq (.region [⟨none, .s (.v 4 (.mov (.c (.int .i64 0))))⟩])
  .ret))))))
def r_spec_l02Cmp : List RV := [.tmp 4]

/-- spec.l02Same -/
def c_spec_l02Same : C :=
  (.seq (.region [⟨none, .s (.box 2 none (.t 0))⟩,
    ⟨none, .s (.box 3 none (.t 1))⟩,
    ⟨none, .s (.v 4 (.mov (.c (.bool false))))⟩])
  (.seq (.region [⟨none, .s (.v 5 (.load true 4 (.t 2)))⟩,
    ⟨none, .s (.v 6 (.load true 4 (.t 3)))⟩,
    ⟨none, .call (some 7) (.c (.func 124 [])) [(.t 5), (.t 6)]⟩,
    ⟨none, .s (.v 8 (.bin .eql false (.t 7) (.c (.int .i64 0))))⟩,
    ⟨none, .s (.v 4 (.mov (.t 8)))⟩])
  .ret))
def r_spec_l02Same : List RV := [.tmp 4]

/-- spec.l02Num -/
def c_spec_l02Num : C :=
  (.seq (.region [⟨none, .s (.alloc 2 none (.agg [.int .i64 0, .int .i64 0, .str [], .slice 4 .nil []]))⟩])
  (.seq (.region [⟨none, .s (.v 3 (.mov (.t 0)))⟩,
    ⟨none, .s (.v 4 (.build [.int .i64 0, .int .i64 0, .str [], .slice 4 .nil []] [(0, 1, (.c (.int .i64 3))), (1, 1, (.t 3))]))⟩,
    ⟨none, .s (.store 4 (.t 2) (.t 4))⟩])
  .ret))
def r_spec_l02Num : List RV := [.cell 2 true 4]

/-- spec.l02Sym -/
def c_spec_l02Sym : C :=
  (.seq (.region [⟨none, .s (.alloc 2 none (.agg [.int .i64 0, .int .i64 0, .str [], .slice 4 .nil []]))⟩])
  (.seq (.region [⟨none, .s (.v 3 (.mov (.t 0)))⟩,
    ⟨none, .s (.v 4 (.build [.int .i64 0, .int .i64 0, .str [], .slice 4 .nil []] [(0, 1, (.c (.int .i64 2))), (2, 1, (.t 3))]))⟩,
    ⟨none, .s (.store 4 (.t 2) (.t 4))⟩])
  .ret))
def r_spec_l02Sym : List RV := [.cell 2 true 4]

/-- impl.IsName -/
def c_impl_IsName : C :=
  (.seq (.region [⟨none, .s (.v 2 (.mov (.c (.bool false))))⟩])
  (.seq (.seq (.region [⟨none, .s (.v 4 (.mov (.t 0)))⟩,
    ⟨none, .s (.v 5 (.slen (.t 4)))⟩,
    ⟨none, .s (.v 6 (.bin .lss false (.t 5) (.c (.int .i64 1))))⟩,
    ⟨none, .s (.v 7 (.mov (.t 6)))⟩,
    ⟨(some (7, false)), .s (.v 8 (.mov (.t 0)))⟩,
    ⟨(some (7, false)), .s (.v 9 (.slen (.t 8)))⟩,
    ⟨(some (7, false)), .s (.v 10 (.bin .gtr false (.t 9) (.c (.int .i64 12))))⟩,
    ⟨none, .s (.v 11 (.pick (.t 7) (.c (.bool true)) (.t 10)))⟩,
    ⟨none, .s (.v 12 (.mov (.t 11)))⟩,
    ⟨(some (12, false)), .s (.v 13 (.mov (.t 0)))⟩,
    ⟨(some (12, false)), .s (.v 14 (.sidx (.t 13) (.c (.int .i64 0))))⟩,
    ⟨(some (12, false)), .s (.v 15 (.bin .lss false (.t 14) (.c (.int .u8 97))))⟩,
    ⟨none, .s (.v 16 (.pick (.t 12) (.c (.bool true)) (.t 15)))⟩,
    ⟨none, .s (.v 17 (.mov (.t 16)))⟩,
    ⟨(some (17, false)), .s (.v 18 (.mov (.t 0)))⟩,
    ⟨(some (17, false)), .s (.v 19 (.sidx (.t 18) (.c (.int .i64 0))))⟩,
    ⟨(some (17, false)), .s (.v 20 (.bin .gtr false (.t 19) (.c (.int .u8 122))))⟩,
    ⟨none, .s (.v 21 (.pick (.t 17) (.c (.bool true)) (.t 20)))⟩])
  (.cond (.t 21)
    (.seq (.region [⟨none, .s (.v 2 (.mov (.c (.bool false))))⟩])
    .ret)
    .skip))
  (.seq (.seq (.region [⟨none, .s (.v 3 (.mov (.c (.int .i64 1))))⟩])
  (.block 0 
    (.loop 
      (.seq (.seq (.region [⟨none, .s (.v 22 (.mov (.t 3)))⟩,
        ⟨none, .s (.v 23 (.mov (.t 0)))⟩,
        ⟨none, .s (.v 24 (.slen (.t 23)))⟩,
        ⟨none, .s (.v 25 (.bin .lss false (.t 22) (.t 24)))⟩])
      (.cond (.t 25)
        .skip
        (.exit 0)))
      (.seq (.block 1 
        (.seq (.region [⟨none, .s (.v 28 (.mov (.t 0)))⟩,
          ⟨none, .s (.v 29 (.mov (.t 3)))⟩,
          ⟨none, .s (.v 30 (.sidx (.t 28) (.t 29)))⟩,
          ⟨none, .s (.v 31 (.bin .geq false (.t 30) (.c (.int .u8 97))))⟩,
          ⟨none, .s (.v 32 (.mov (.t 31)))⟩,
          ⟨(some (32, true)), .s (.v 33 (.mov (.t 0)))⟩,
          ⟨(some (32, true)), .s (.v 34 (.mov (.t 3)))⟩,
          ⟨(some (32, true)), .s (.v 35 (.sidx (.t 33) (.t 34)))⟩,
          ⟨(some (32, true)), .s (.v 36 (.bin .leq false (.t 35) (.c (.int .u8 122))))⟩,
          ⟨none, .s (.v 37 (.pick (.t 32) (.t 36) (.c (.bool false))))⟩,
          ⟨none, .s (.v 38 (.mov (.t 37)))⟩,
          ⟨(some (38, false)), .s (.v 39 (.mov (.t 0)))⟩,
          ⟨(some (38, false)), .s (.v 40 (.mov (.t 3)))⟩,
          ⟨(some (38, false)), .s (.v 41 (.sidx (.t 39) (.t 40)))⟩,
          ⟨(some (38, false)), .s (.v 42 (.bin .geq false (.t 41) (.c (.int .u8 48))))⟩,
          ⟨(some (38, false)), .s (.v 43 (.mov (.t 42)))⟩,
          ⟨(some (43, true)), .s (.v 44 (.mov (.t 0)))⟩,
          ⟨(some (43, true)), .s (.v 45 (.mov (.t 3)))⟩,
          ⟨(some (43, true)), .s (.v 46 (.sidx (.t 44) (.t 45)))⟩,
          ⟨(some (43, true)), .s (.v 47 (.bin .leq false (.t 46) (.c (.int .u8 57))))⟩,
          ⟨(some (38, false)), .s (.v 48 (.pick (.t 43) (.t 47) (.c (.bool false))))⟩,
          ⟨none, .s (.v 49 (.pick (.t 38) (.c (.bool true)) (.t 48)))⟩,
          ⟨none, .s (.v 50 (.mov (.t 49)))⟩,
          ⟨(some (50, false)), .s (.v 51 (.mov (.t 0)))⟩,
          ⟨(some (50, false)), .s (.v 52 (.mov (.t 3)))⟩,
          ⟨(some (50, false)), .s (.v 53 (.sidx (.t 51) (.t 52)))⟩,
          ⟨(some (50, false)), .s (.v 54 (.bin .eql false (.t 53) (.c (.int .u8 45))))⟩,
          ⟨none, .s (.v 55 (.pick (.t 50) (.c (.bool true)) (.t 54)))⟩,
          ⟨none, .s (.v 56 (.notB (.t 55)))⟩])
        (.cond (.t 56)
          (.seq (.region [⟨none, .s (.v 2 (.mov (.c (.bool false))))⟩])
          .ret)
          .skip)))
      (.region [⟨none, .s (.v 26 (.mov (.t 3)))⟩,
        ⟨none, .s (.v 27 (.bin .add false (.t 26) (.c (.int .i64 1))))⟩,
        ⟨none, .s (.v 3 (.mov (.t 27)))⟩]))))))
  (.seq (.region [⟨none, .s (.v 2 (.mov (.c (.bool true))))⟩])
  .ret))))
def r_impl_IsName : List RV := [.tmp 2]

/-- impl.sizeWith -/
def c_impl_sizeWith : C :=
  (.seq (.region [⟨none, .s (.box 2 none (.t 0))⟩,
    ⟨none, .s (.v 4 (.mov (.c (.int .i64 0))))⟩])
  (.seq (.seq (.region [⟨none, .s (.v 6 (.faddr 0 false 1 (.t 2)))⟩,
    ⟨none, .s (.v 7 (.load false 1 (.t 6)))⟩])
  (.block 0 
    (.seq (.region [⟨none, .s (.v 9 (.bin .eql false (.t 7) (.c (.int .i64 1))))⟩,
      ⟨none, .s (.v 8 (.mov (.t 9)))⟩])
    (.cond (.t 8)
      (.seq (.region [⟨none, .s (.v 10 (.mov (.t 1)))⟩,
        ⟨none, .s (.v 11 (.faddr 1 false 1 (.t 2)))⟩,
        ⟨none, .s (.v 12 (.load false 1 (.t 11)))⟩,
        ⟨none, .call (some 13) (.t 10) [(.t 12)]⟩,
        ⟨none, .s (.v 14 (.min2 (.t 13) (.c (.int .i64 5001))))⟩,
        ⟨none, .s (.v 4 (.mov (.t 14)))⟩])
      .ret)
      (.seq (.region [⟨none, .s (.v 16 (.bin .eql false (.t 7) (.c (.int .i64 4))))⟩,
        ⟨none, .s (.v 15 (.mov (.t 16)))⟩])
      (.cond (.t 15)
        (.seq (.region [⟨none, .s (.v 17 (.faddr 3 false 1 (.t 2)))⟩,
          ⟨none, .s (.v 18 (.load false 1 (.t 17)))⟩,
          ⟨none, .s (.v 19 (.iaddr 4 (.t 18) (.c (.int .i64 0))))⟩,
          ⟨none, .s (.v 20 (.load true 4 (.t 19)))⟩,
          ⟨none, .s (.v 21 (.mov (.t 1)))⟩,
          ⟨none, .call (some 22) (.c (.func 147 [])) [(.t 20), (.t 21)]⟩,
          ⟨none, .s (.v 5 (.mov (.t 22)))⟩])
        (.seq (.seq (.region [⟨none, .s (.v 23 (.mov (.t 5)))⟩,
          ⟨none, .s (.v 24 (.bin .gtr false (.t 23) (.c (.int .i64 5000))))⟩])
        (.cond (.t 24)
          (.seq (.region [⟨none, .s (.v 25 (.mov (.t 5)))⟩,
            ⟨none, .s (.v 4 (.mov (.t 25)))⟩])
          .ret)
          .skip))
        (.seq (.region [⟨none, .s (.v 26 (.mov (.t 5)))⟩,
          ⟨none, .s (.v 27 (.bin .add false (.c (.int .i64 1)) (.t 26)))⟩,
          ⟨none, .s (.v 28 (.faddr 3 false 1 (.t 2)))⟩,
          ⟨none, .s (.v 29 (.load false 1 (.t 28)))⟩,
          ⟨none, .s (.v 30 (.iaddr 4 (.t 29) (.c (.int .i64 1))))⟩,
          ⟨none, .s (.v 31 (.load true 4 (.t 30)))⟩,
          ⟨none, .s (.v 32 (.mov (.t 1)))⟩,
          ⟨none, .call (some 33) (.c (.func 147 [])) [(.t 31), (.t 32)]⟩,
          ⟨none, .s (.v 34 (.bin .add false (.t 27) (.t 33)))⟩,
          ⟨none, .s (.v 35 (.min2 (.t 34) (.c (.int .i64 5001))))⟩,
          ⟨none, .s (.v 4 (.mov (.t 35)))⟩])
        .ret)))
        .skip))))))
  (.seq (.region [⟨none, .s (.v 4 (.mov (.c (.int .i64 1))))⟩])
  .ret)))
def r_impl_sizeWith : List RV := [.tmp 4]

/-- impl.replaced$1 -/
def c_impl_replaced_1 : C :=
  (.seq (.region [⟨none, .s (.v 3 (.mov (.c (.int .i64 0))))⟩])
  (.seq (.seq (.region [⟨none, .s (.v 7 (.load false 1 (.t 1)))⟩,
    ⟨none, .s (.v 8 (.mov (.t 0)))⟩,
    ⟨none, .call (some 9) (.t 7) [(.t 8)]⟩,
    ⟨none, .s (.v 6 (.mov (.t 9)))⟩,
    ⟨none, .s (.v 10 (.ext 0 (.t 6)))⟩,
    ⟨none, .s (.v 11 (.ext 1 (.t 6)))⟩,
    ⟨none, .s (.alloc 4 none (.agg [.int .i64 0, .int .i64 0, .str [], .slice 4 .nil []]))⟩,
    ⟨none, .s (.store 4 (.t 4) (.t 10))⟩,
    ⟨none, .s (.v 5 (.mov (.t 11)))⟩])
  (.seq (.region [⟨none, .s (.v 12 (.mov (.t 5)))⟩])
  (.cond (.t 12)
    (.seq (.region [⟨none, .s (.v 13 (.load true 4 (.t 4)))⟩,
      ⟨none, .call (some 14) (.c (.func 108 [])) [(.t 13), (.c (.int .i64 5000))]⟩,
      ⟨none, .s (.v 3 (.mov (.t 14)))⟩])
    .ret)
    .skip)))
  (.seq (.region [⟨none, .s (.v 3 (.mov (.c (.int .i64 1))))⟩])
  .ret)))
def r_impl_replaced_1 : List RV := [.tmp 3]

/-- impl.mapVars -/
def c_impl_mapVars : C :=
  (.seq (.region [⟨none, .s (.box 2 none (.t 0))⟩,
    ⟨none, .s (.alloc 4 none (.agg [.int .i64 0, .int .i64 0, .str [], .slice 4 .nil []]))⟩])
  (.seq (.seq (.region [⟨none, .s (.v 7 (.faddr 0 false 1 (.t 2)))⟩,
    ⟨none, .s (.v 8 (.load false 1 (.t 7)))⟩])
  (.block 0 
    (.seq (.region [⟨none, .s (.v 10 (.bin .eql false (.t 8) (.c (.int .i64 1))))⟩,
      ⟨none, .s (.v 9 (.mov (.t 10)))⟩])
    (.cond (.t 9)
      (.seq (.seq (.region [⟨none, .s (.v 12 (.mov (.t 1)))⟩,
        ⟨none, .s (.v 13 (.faddr 1 false 1 (.t 2)))⟩,
        ⟨none, .s (.v 14 (.load false 1 (.t 13)))⟩,
        ⟨none, .call (some 15) (.t 12) [(.t 14)]⟩,
        ⟨none, .s (.v 11 (.mov (.t 15)))⟩,
        ⟨none, .s (.v 16 (.ext 0 (.t 11)))⟩,
        ⟨none, .s (.v 17 (.ext 1 (.t 11)))⟩,
        ⟨none, .s (.alloc 5 none (.agg [.int .i64 0, .int .i64 0, .str [], .slice 4 .nil []]))⟩,
        ⟨none, .s (.store 4 (.t 5) (.t 16))⟩,
        ⟨none, .s (.v 6 (.mov (.t 17)))⟩])
      (.seq (.region [⟨none, .s (.v 18 (.mov (.t 6)))⟩])
      (.cond (.t 18)
        (.seq (.region [⟨none, .s (.v 19 (.load true 4 (.t 5)))⟩,
          ⟨none, .call (some 20) (.c (.func 66 [])) [(.t 19)]⟩,
          ⟨none, .s (.store 4 (.t 4) (.t 20))⟩])
        .ret)
        .skip)))
      (.seq (.region [⟨none, .s (.v 21 (.load true 4 (.t 2)))⟩,
        ⟨none, .s (.store 4 (.t 4) (.t 21))⟩])
      .ret))
      (.seq (.region [⟨none, .s (.v 23 (.bin .eql false (.t 8) (.c (.int .i64 4))))⟩,
        ⟨none, .s (.v 22 (.mov (.t 23)))⟩])
      (.cond (.t 22)
        (.seq (.drawn false 38 [⟨none, .s (.v 24 (.faddr 3 false 1 (.t 2)))⟩,
          ⟨none, .s (.v 25 (.load false 1 (.t 24)))⟩,
          ⟨none, .s (.v 26 (.iaddr 4 (.t 25) (.c (.int .i64 0))))⟩,
          ⟨none, .s (.v 27 (.load true 4 (.t 26)))⟩,
          ⟨none, .s (.v 28 (.mov (.t 1)))⟩,
          ⟨none, .call (some 29) (.c (.func 149 [])) [(.t 27), (.t 28)]⟩,
          ⟨none, .s (.v 30 (.faddr 3 false 1 (.t 2)))⟩,
          ⟨none, .s (.v 31 (.load false 1 (.t 30)))⟩,
          ⟨none, .s (.v 32 (.iaddr 4 (.t 31) (.c (.int .i64 1))))⟩,
          ⟨none, .s (.v 33 (.load true 4 (.t 32)))⟩,
          ⟨none, .s (.v 34 (.mov (.t 1)))⟩,
          ⟨none, .call (some 35) (.c (.func 149 [])) [(.t 33), (.t 34)]⟩,
          ⟨none, .call (some 36) (.c (.func 64 [])) [(.t 29), (.t 35)]⟩,
          ⟨none, .s (.store 4 (.t 4) (.t 36))⟩])
        .ret)
        .skip))))))
  (.seq (.region [⟨none, .s (.v 37 (.load true 4 (.t 2)))⟩,
    ⟨none, .s (.store 4 (.t 4) (.t 37))⟩])
  .ret)))
def r_impl_mapVars : List RV := [.cell 4 true 4]

/-- sort.Search -/
def c_sort_Search : C :=
  (.seq (.region [⟨none, .s (.v 4 (.mov (.c (.int .i64 0))))⟩])
  (.seq (.region [⟨none, .s (.v 8 (.mov (.t 0)))⟩,
    ⟨none, .s (.v 5 (.mov (.c (.int .i64 0))))⟩,
    ⟨none, .s (.v 6 (.mov (.t 8)))⟩])
  (.seq (.block 0 
    (.loop 
      (.seq (.seq (.region [⟨none, .s (.v 9 (.mov (.t 5)))⟩,
        ⟨none, .s (.v 10 (.mov (.t 6)))⟩,
        ⟨none, .s (.v 11 (.bin .lss false (.t 9) (.t 10)))⟩])
      (.cond (.t 11)
        .skip
        (.exit 0)))
      (.block 1 
        (.seq (.region [⟨none, .s (.v 12 (.mov (.t 5)))⟩,
          ⟨none, .s (.v 13 (.mov (.t 6)))⟩,
          ⟨none, .s (.v 14 (.bin .add false (.t 12) (.t 13)))⟩,
          ⟨none, .s (.v 15 (.conv .u64 (.t 14)))⟩,
          ⟨none, .s (.v 16 (.bin .shr false (.t 15) (.c (.int .u64 1))))⟩,
          ⟨none, .s (.v 17 (.conv .i64 (.t 16)))⟩,
          ⟨none, .s (.v 7 (.mov (.t 17)))⟩])
        (.seq (.region [⟨none, .s (.v 18 (.mov (.t 1)))⟩,
          ⟨none, .s (.v 19 (.mov (.t 7)))⟩,
          ⟨none, .call (some 20) (.t 18) [(.t 19)]⟩,
          ⟨none, .s (.v 21 (.notB (.t 20)))⟩])
        (.cond (.t 21)
          (.region [⟨none, .s (.v 22 (.mov (.t 7)))⟩,
            ⟨none, .s (.v 23 (.bin .add false (.t 22) (.c (.int .i64 1))))⟩,
            ⟨none, .s (.v 5 (.mov (.t 23)))⟩])
          (.region [⟨none, .s (.v 24 (.mov (.t 7)))⟩,
            ⟨none, .s (.v 6 (.mov (.t 24)))⟩]))))))))
  (.seq (.region [⟨none, .s (.v 25 (.mov (.t 5)))⟩,
    ⟨none, .s (.v 4 (.mov (.t 25)))⟩])
  .ret))))
def r_sort_Search : List RV := [.tmp 4]

/-- impl.find$1 -/
def c_impl_find_1 : C :=
  (.seq (.region [⟨none, .s (.v 4 (.mov (.c (.bool false))))⟩])
  (.seq (.drawn true 12 [⟨none, .s (.v 5 (.load false 1 (.t 1)))⟩,
    ⟨none, .s (.v 6 (.mov (.t 0)))⟩,
    ⟨none, .s (.v 7 (.iaddr 5 (.t 5) (.t 6)))⟩,
    ⟨none, .s (.v 8 (.faddr 0 false 1 (.t 7)))⟩,
    ⟨none, .s (.v 9 (.load false 1 (.t 8)))⟩,
    ⟨none, .s (.v 10 (.load false 1 (.t 2)))⟩,
    ⟨none, .s (.v 11 (.bin .geq false (.t 9) (.t 10)))⟩,
    ⟨none, .s (.v 4 (.mov (.t 11)))⟩])
  .ret))
def r_impl_find_1 : List RV := [.tmp 4]

/-- spec.l02Sign -/
def c_spec_l02Sign : C :=
  (.seq (.region [⟨none, .s (.v 2 (.mov (.c (.int .i64 0))))⟩])
  (.seq (.seq (.region [⟨none, .s (.v 3 (.mov (.t 0)))⟩])
  (.cond (.t 3)
    (.seq (.region [⟨none, .s (.v 2 (.mov (.c (.int .i64 (-1)))))⟩])
    .ret)
    .skip))
  (.seq (.region [⟨none, .s (.v 2 (.mov (.c (.int .i64 1))))⟩])
  .ret)))
def r_spec_l02Sign : List RV := [.tmp 2]
def tys : List (Nat × TF) := [
  (3, ⟨1, 8, .int .i64, .int .i64 0⟩),
  (4, ⟨1, 1, .bool, .bool false⟩),
  (5, ⟨1, 1, .int .u8, .int .u8 0⟩),
  (9, ⟨1, 16, .str, .str []⟩),
  (22, ⟨1, 24, .slice 5, .slice 1 .nil []⟩),
  (23, ⟨1, 24, .slice 26, .slice 4 .nil []⟩),
  (26, ⟨4, 56, .struct [(0, 3), (1, 3), (2, 9), (3, 23)], .agg [.int .i64 0, .int .i64 0, .str [], .slice 4 .nil []]⟩),
  (30, ⟨5, 64, .struct [(0, 3), (1, 26)], .agg [.int .i64 0, .int .i64 0, .int .i64 0, .str [], .slice 4 .nil []]⟩),
  (31, ⟨1, 24, .slice 30, .slice 5 .nil []⟩),
  (49, ⟨1, 24, .slice 3, .slice 1 .nil []⟩),
  (97, ⟨1, 24, .slice 31, .slice 1 .nil []⟩),
  (100, ⟨1, 8, .map 3 26, .junk⟩),
  (102, ⟨1, 8, .other, .junk⟩),
  (103, ⟨1, 8, .map 3 23, .junk⟩),
  (108, ⟨1, 8, .map 3 4, .junk⟩),
  (161, ⟨1, 8, .other, .junk⟩),
  (181, ⟨3, 40, .struct [(0, 22), (1, 3), (2, 3)], .agg [.slice 1 .nil [], .int .i64 0, .int .i64 0]⟩),
  (182, ⟨1, 8, .int .u64, .int .u64 0⟩),
  (184, ⟨1, 24, .slice 9, .slice 1 .nil []⟩)]
theorem mixed : Tryz.prog.follows .mixedOrders = true := by kernel_rfl
theorem tysok : tysOk Tryz.prog tys = true := by kernel_rfl
theorem ok_laws_FnGround : fnOk tys c_laws_FnGround r_laws_FnGround 1 Tryz.f3 = true := by kernel_rfl
theorem f_laws_FnGround : Tryz.prog.funcs[(3 : Nat)]? = some Tryz.f3 := Tryz.func3
theorem ok_laws_FnMatching : fnOk tys c_laws_FnMatching r_laws_FnMatching 1 Tryz.f4 = true := by kernel_rfl
theorem f_laws_FnMatching : Tryz.prog.funcs[(4 : Nat)]? = some Tryz.f4 := Tryz.func4
theorem ok_spec_MakeUniverse : fnOk tys c_spec_MakeUniverse r_spec_MakeUniverse 3 Tryz.f7 = true := by kernel_rfl
theorem f_spec_MakeUniverse : Tryz.prog.funcs[(7 : Nat)]? = some Tryz.f7 := Tryz.func7
theorem ok_spec_MakeTerm : fnOk tys c_spec_MakeTerm r_spec_MakeTerm 4 Tryz.f8 = true := by kernel_rfl
theorem f_spec_MakeTerm : Tryz.prog.funcs[(8 : Nat)]? = some Tryz.f8 := Tryz.func8
theorem ok_spec_MakeValue : fnOk tys c_spec_MakeValue r_spec_MakeValue 2 Tryz.f9 = true := by kernel_rfl
theorem f_spec_MakeValue : Tryz.prog.funcs[(9 : Nat)]? = some Tryz.f9 := Tryz.func9
theorem ok_impl_GroundInstances : fnOk tys c_impl_GroundInstances r_impl_GroundInstances 2 Tryz.f10 = true := by kernel_rfl
theorem f_impl_GroundInstances : Tryz.prog.funcs[(10 : Nat)]? = some Tryz.f10 := Tryz.func10
theorem ok_impl_UniverseOk : fnOk tys c_impl_UniverseOk r_impl_UniverseOk 1 Tryz.f11 = true := by kernel_rfl
theorem f_impl_UniverseOk : Tryz.prog.funcs[(11 : Nat)]? = some Tryz.f11 := Tryz.func11
theorem ok_impl_IsGround : fnOk tys c_impl_IsGround r_impl_IsGround 1 Tryz.f12 = true := by kernel_rfl
theorem f_impl_IsGround : Tryz.prog.funcs[(12 : Nat)]? = some Tryz.f12 := Tryz.func12
theorem ok_impl_IsInstance : fnOk tys c_impl_IsInstance r_impl_IsInstance 2 Tryz.f13 = true := by kernel_rfl
theorem f_impl_IsInstance : Tryz.prog.funcs[(13 : Nat)]? = some Tryz.f13 := Tryz.func13
theorem ok_impl_CompareTerms : fnOk tys c_impl_CompareTerms r_impl_CompareTerms 2 Tryz.f14 = true := by kernel_rfl
theorem f_impl_CompareTerms : Tryz.prog.funcs[(14 : Nat)]? = some Tryz.f14 := Tryz.func14
theorem ok_laws_same : fnOk tys c_laws_same r_laws_same 2 Tryz.f15 = true := by kernel_rfl
theorem f_laws_same : Tryz.prog.funcs[(15 : Nat)]? = some Tryz.f15 := Tryz.func15
theorem ok_impl_SubtermsOf : fnOk tys c_impl_SubtermsOf r_impl_SubtermsOf 1 Tryz.f16 = true := by kernel_rfl
theorem f_impl_SubtermsOf : Tryz.prog.funcs[(16 : Nat)]? = some Tryz.f16 := Tryz.func16
theorem ok_laws_list : fnOk tys c_laws_list r_laws_list 2 Tryz.f17 = true := by kernel_rfl
theorem f_laws_list : Tryz.prog.funcs[(17 : Nat)]? = some Tryz.f17 := Tryz.func17
theorem ok_impl_GroundTerms : fnOk tys c_impl_GroundTerms r_impl_GroundTerms 2 Tryz.f18 = true := by kernel_rfl
theorem f_impl_GroundTerms : Tryz.prog.funcs[(18 : Nat)]? = some Tryz.f18 := Tryz.func18
theorem ok_spec_MakeGround : fnOk tys c_spec_MakeGround r_spec_MakeGround 3 Tryz.f19 = true := by kernel_rfl
theorem f_spec_MakeGround : Tryz.prog.funcs[(19 : Nat)]? = some Tryz.f19 := Tryz.func19
theorem ok_impl_Instantiate : fnOk tys c_impl_Instantiate r_impl_Instantiate 2 Tryz.f20 = true := by kernel_rfl
theorem f_impl_Instantiate : Tryz.prog.funcs[(20 : Nat)]? = some Tryz.f20 := Tryz.func20
theorem ok_impl_MatchTerm : fnOk tys c_impl_MatchTerm r_impl_MatchTerm 2 Tryz.f21 = true := by kernel_rfl
theorem f_impl_MatchTerm : Tryz.prog.funcs[(21 : Nat)]? = some Tryz.f21 := Tryz.func21
theorem ok_impl_ValuesOk : fnOk tys c_impl_ValuesOk r_impl_ValuesOk 1 Tryz.f22 = true := by kernel_rfl
theorem f_impl_ValuesOk : Tryz.prog.funcs[(22 : Nat)]? = some Tryz.f22 := Tryz.func22
theorem ok_impl_OccursIn : fnOk tys c_impl_OccursIn r_impl_OccursIn 2 Tryz.f23 = true := by kernel_rfl
theorem f_impl_OccursIn : Tryz.prog.funcs[(23 : Nat)]? = some Tryz.f23 := Tryz.func23
theorem ok_spec_MakeAlike : fnOk tys c_spec_MakeAlike r_spec_MakeAlike 4 Tryz.f24 = true := by kernel_rfl
theorem f_spec_MakeAlike : Tryz.prog.funcs[(24 : Nat)]? = some Tryz.f24 := Tryz.func24
theorem ok_impl_TermVars : fnOk tys c_impl_TermVars r_impl_TermVars 1 Tryz.f25 = true := by kernel_rfl
theorem f_impl_TermVars : Tryz.prog.funcs[(25 : Nat)]? = some Tryz.f25 := Tryz.func25
theorem ok_spec_l08Universe : fnOk tys c_spec_l08Universe r_spec_l08Universe 2 Tryz.f49 = true := by kernel_rfl
theorem f_spec_l08Universe : Tryz.prog.funcs[(49 : Nat)]? = some Tryz.f49 := Tryz.func49
theorem ok_spec_l43New : fnOk tys c_spec_l43New r_spec_l43New 2 Tryz.f50 = true := by kernel_rfl
theorem f_spec_l43New : Tryz.prog.funcs[(50 : Nat)]? = some Tryz.f50 := Tryz.func50
theorem ok_spec_l02Draw : fnOk tys c_spec_l02Draw r_spec_l02Draw 3 Tryz.f51 = true := by kernel_rfl
theorem f_spec_l02Draw : Tryz.prog.funcs[(51 : Nat)]? = some Tryz.f51 := Tryz.func51
theorem ok_spec_l02Copy : fnOk tys c_spec_l02Copy r_spec_l02Copy 1 Tryz.f52 = true := by kernel_rfl
theorem f_spec_l02Copy : Tryz.prog.funcs[(52 : Nat)]? = some Tryz.f52 := Tryz.func52
theorem ok_spec_l04Put : fnOk tys c_spec_l04Put r_spec_l04Put 2 Tryz.f53 = true := by kernel_rfl
theorem f_spec_l04Put : Tryz.prog.funcs[(53 : Nat)]? = some Tryz.f53 := Tryz.func53
theorem ok_impl_TermOk : fnOk tys c_impl_TermOk r_impl_TermOk 1 Tryz.f54 = true := by kernel_rfl
theorem f_impl_TermOk : Tryz.prog.funcs[(54 : Nat)]? = some Tryz.f54 := Tryz.func54
theorem ok_impl_power : fnOk tys c_impl_power r_impl_power 2 Tryz.f55 = true := by kernel_rfl
theorem f_impl_power : Tryz.prog.funcs[(55 : Nat)]? = some Tryz.f55 := Tryz.func55
theorem ok_impl_assignments : fnOk tys c_impl_assignments r_impl_assignments 2 Tryz.f56 = true := by kernel_rfl
theorem f_impl_assignments : Tryz.prog.funcs[(56 : Nat)]? = some Tryz.f56 := Tryz.func56
theorem ok_impl_put : fnOk tys c_impl_put r_impl_put 2 Tryz.f57 = true := by kernel_rfl
theorem f_impl_put : Tryz.prog.funcs[(57 : Nat)]? = some Tryz.f57 := Tryz.func57
theorem ok_impl_ascending : fnOk tys c_impl_ascending r_impl_ascending 1 Tryz.f58 = true := by kernel_rfl
theorem f_impl_ascending : Tryz.prog.funcs[(58 : Nat)]? = some Tryz.f58 := Tryz.func58
theorem ok_impl_orderTerms : fnOk tys c_impl_orderTerms r_impl_orderTerms 2 Tryz.f59 = true := by kernel_rfl
theorem f_impl_orderTerms : Tryz.prog.funcs[(59 : Nat)]? = some Tryz.f59 := Tryz.func59
theorem ok_impl_isGround : fnOk tys c_impl_isGround r_impl_isGround 1 Tryz.f60 = true := by kernel_rfl
theorem f_impl_isGround : Tryz.prog.funcs[(60 : Nat)]? = some Tryz.f60 := Tryz.func60
theorem ok_impl_matched : fnOk tys c_impl_matched r_impl_matched 3 Tryz.f61 = true := by kernel_rfl
theorem f_impl_matched : Tryz.prog.funcs[(61 : Nat)]? = some Tryz.f61 := Tryz.func61
theorem ok_impl_termsOk : fnOk tys c_impl_termsOk r_impl_termsOk 1 Tryz.f62 = true := by kernel_rfl
theorem f_impl_termsOk : Tryz.prog.funcs[(62 : Nat)]? = some Tryz.f62 := Tryz.func62
theorem ok_impl_pair : fnOk tys c_impl_pair r_impl_pair 2 Tryz.f64 = true := by kernel_rfl
theorem f_impl_pair : Tryz.prog.funcs[(64 : Nat)]? = some Tryz.f64 := Tryz.func64
theorem ok_spec_l12Ground : fnOk tys c_spec_l12Ground r_spec_l12Ground 2 Tryz.f65 = true := by kernel_rfl
theorem f_spec_l12Ground : Tryz.prog.funcs[(65 : Nat)]? = some Tryz.f65 := Tryz.func65
theorem ok_impl_copyTerm : fnOk tys c_impl_copyTerm r_impl_copyTerm 1 Tryz.f66 = true := by kernel_rfl
theorem f_impl_copyTerm : Tryz.prog.funcs[(66 : Nat)]? = some Tryz.f66 := Tryz.func66
theorem ok_impl_sortBindings : fnOk tys c_impl_sortBindings r_impl_sortBindings 1 Tryz.f67 = true := by kernel_rfl
theorem f_impl_sortBindings : Tryz.prog.funcs[(67 : Nat)]? = some Tryz.f67 := Tryz.func67
theorem ok_impl_occurs : fnOk tys c_impl_occurs r_impl_occurs 2 Tryz.f68 = true := by kernel_rfl
theorem f_impl_occurs : Tryz.prog.funcs[(68 : Nat)]? = some Tryz.f68 := Tryz.func68
theorem ok_spec_l05Alike : fnOk tys c_spec_l05Alike r_spec_l05Alike 3 Tryz.f69 = true := by kernel_rfl
theorem f_spec_l05Alike : Tryz.prog.funcs[(69 : Nat)]? = some Tryz.f69 := Tryz.func69
theorem ok_impl_eachVar : fnOk tys c_impl_eachVar r_impl_eachVar 2 Tryz.f70 = true := by kernel_rfl
theorem f_impl_eachVar : Tryz.prog.funcs[(70 : Nat)]? = some Tryz.f70 := Tryz.func70
theorem ok_impl_TermVars_1 : fnOk tys c_impl_TermVars_1 r_impl_TermVars_1 2 Tryz.f71 = true := by kernel_rfl
theorem f_impl_TermVars_1 : Tryz.prog.funcs[(71 : Nat)]? = some Tryz.f71 := Tryz.func71
theorem ok_impl_sortedInts : fnOk tys c_impl_sortedInts r_impl_sortedInts 1 Tryz.f72 = true := by kernel_rfl
theorem f_impl_sortedInts : Tryz.prog.funcs[(72 : Nat)]? = some Tryz.f72 := Tryz.func72
theorem ok_spec_l08Insert : fnOk tys c_spec_l08Insert r_spec_l08Insert 2 Tryz.f79 = true := by kernel_rfl
theorem f_spec_l08Insert : Tryz.prog.funcs[(79 : Nat)]? = some Tryz.f79 := Tryz.func79
theorem ok_spec_l01Below : fnOk tys c_spec_l01Below r_spec_l01Below 2 Tryz.f101 = true := by kernel_rfl
theorem f_spec_l01Below : Tryz.prog.funcs[(101 : Nat)]? = some Tryz.f101 := Tryz.func101
theorem ok_spec_l01New : fnOk tys c_spec_l01New r_spec_l01New 1 Tryz.f102 = true := by kernel_rfl
theorem f_spec_l01New : Tryz.prog.funcs[(102 : Nat)]? = some Tryz.f102 := Tryz.func102
theorem ok_spec_l01Byte : fnOk tys c_spec_l01Byte r_spec_l01Byte 1 Tryz.f103 = true := by kernel_rfl
theorem f_spec_l01Byte : Tryz.prog.funcs[(103 : Nat)]? = some Tryz.f103 := Tryz.func103
theorem ok_spec_l02Pair : fnOk tys c_spec_l02Pair r_spec_l02Pair 2 Tryz.f104 = true := by kernel_rfl
theorem f_spec_l02Pair : Tryz.prog.funcs[(104 : Nat)]? = some Tryz.f104 := Tryz.func104
theorem ok_spec_l02Var : fnOk tys c_spec_l02Var r_spec_l02Var 1 Tryz.f105 = true := by kernel_rfl
theorem f_spec_l02Var : Tryz.prog.funcs[(105 : Nat)]? = some Tryz.f105 := Tryz.func105
theorem ok_spec_l02Atom : fnOk tys c_spec_l02Atom r_spec_l02Atom 1 Tryz.f106 = true := by kernel_rfl
theorem f_spec_l02Atom : Tryz.prog.funcs[(106 : Nat)]? = some Tryz.f106 := Tryz.func106
theorem ok_spec_l04Get : fnOk tys c_spec_l04Get r_spec_l04Get 2 Tryz.f107 = true := by kernel_rfl
theorem f_spec_l04Get : Tryz.prog.funcs[(107 : Nat)]? = some Tryz.f107 := Tryz.func107
theorem ok_impl_nodesOf : fnOk tys c_impl_nodesOf r_impl_nodesOf 2 Tryz.f108 = true := by kernel_rfl
theorem f_impl_nodesOf : Tryz.prog.funcs[(108 : Nat)]? = some Tryz.f108 := Tryz.func108
theorem ok_impl_replaced : fnOk tys c_impl_replaced r_impl_replaced 2 Tryz.f109 = true := by kernel_rfl
theorem f_impl_replaced : Tryz.prog.funcs[(109 : Nat)]? = some Tryz.f109 := Tryz.func109
theorem ok_impl_put_1 : fnOk tys c_impl_put_1 r_impl_put_1 2 Tryz.f110 = true := by kernel_rfl
theorem f_impl_put_1 : Tryz.prog.funcs[(110 : Nat)]? = some Tryz.f110 := Tryz.func110
theorem ok_impl_find : fnOk tys c_impl_find r_impl_find 2 Tryz.f111 = true := by kernel_rfl
theorem f_impl_find : Tryz.prog.funcs[(111 : Nat)]? = some Tryz.f111 := Tryz.func111
theorem ok_impl_ascending_1 : fnOk tys c_impl_ascending_1 r_impl_ascending_1 3 Tryz.f113 = true := by kernel_rfl
theorem f_impl_ascending_1 : Tryz.prog.funcs[(113 : Nat)]? = some Tryz.f113 := Tryz.func113
theorem ok_impl_equalTerms : fnOk tys c_impl_equalTerms r_impl_equalTerms 2 Tryz.f114 = true := by kernel_rfl
theorem f_impl_equalTerms : Tryz.prog.funcs[(114 : Nat)]? = some Tryz.f114 := Tryz.func114
theorem ok_impl_orderInts : fnOk tys c_impl_orderInts r_impl_orderInts 2 Tryz.f115 = true := by kernel_rfl
theorem f_impl_orderInts : Tryz.prog.funcs[(115 : Nat)]? = some Tryz.f115 := Tryz.func115
theorem ok_impl_isGround_1 : fnOk tys c_impl_isGround_1 r_impl_isGround_1 2 Tryz.f116 = true := by kernel_rfl
theorem f_impl_isGround_1 : Tryz.prog.funcs[(116 : Nat)]? = some Tryz.f116 := Tryz.func116
theorem ok_impl_sortBindings_1 : fnOk tys c_impl_sortBindings_1 r_impl_sortBindings_1 3 Tryz.f118 = true := by kernel_rfl
theorem f_impl_sortBindings_1 : Tryz.prog.funcs[(118 : Nat)]? = some Tryz.f118 := Tryz.func118
theorem ok_spec_l01Once : fnOk tys c_spec_l01Once r_spec_l01Once 2 Tryz.f119 = true := by kernel_rfl
theorem f_spec_l01Once : Tryz.prog.funcs[(119 : Nat)]? = some Tryz.f119 := Tryz.func119
theorem ok_spec_l02Cmp : fnOk tys c_spec_l02Cmp r_spec_l02Cmp 2 Tryz.f124 = true := by kernel_rfl
theorem f_spec_l02Cmp : Tryz.prog.funcs[(124 : Nat)]? = some Tryz.f124 := Tryz.func124
theorem ok_spec_l02Same : fnOk tys c_spec_l02Same r_spec_l02Same 2 Tryz.f128 = true := by kernel_rfl
theorem f_spec_l02Same : Tryz.prog.funcs[(128 : Nat)]? = some Tryz.f128 := Tryz.func128
theorem ok_spec_l02Num : fnOk tys c_spec_l02Num r_spec_l02Num 1 Tryz.f144 = true := by kernel_rfl
theorem f_spec_l02Num : Tryz.prog.funcs[(144 : Nat)]? = some Tryz.f144 := Tryz.func144
theorem ok_spec_l02Sym : fnOk tys c_spec_l02Sym r_spec_l02Sym 1 Tryz.f145 = true := by kernel_rfl
theorem f_spec_l02Sym : Tryz.prog.funcs[(145 : Nat)]? = some Tryz.f145 := Tryz.func145
theorem ok_impl_IsName : fnOk tys c_impl_IsName r_impl_IsName 1 Tryz.f146 = true := by kernel_rfl
theorem f_impl_IsName : Tryz.prog.funcs[(146 : Nat)]? = some Tryz.f146 := Tryz.func146
theorem ok_impl_sizeWith : fnOk tys c_impl_sizeWith r_impl_sizeWith 2 Tryz.f147 = true := by kernel_rfl
theorem f_impl_sizeWith : Tryz.prog.funcs[(147 : Nat)]? = some Tryz.f147 := Tryz.func147
theorem ok_impl_replaced_1 : fnOk tys c_impl_replaced_1 r_impl_replaced_1 2 Tryz.f148 = true := by kernel_rfl
theorem f_impl_replaced_1 : Tryz.prog.funcs[(148 : Nat)]? = some Tryz.f148 := Tryz.func148
theorem ok_impl_mapVars : fnOk tys c_impl_mapVars r_impl_mapVars 2 Tryz.f149 = true := by kernel_rfl
theorem f_impl_mapVars : Tryz.prog.funcs[(149 : Nat)]? = some Tryz.f149 := Tryz.func149
theorem ok_sort_Search : fnOk tys c_sort_Search r_sort_Search 2 Tryz.f150 = true := by kernel_rfl
theorem f_sort_Search : Tryz.prog.funcs[(150 : Nat)]? = some Tryz.f150 := Tryz.func150
theorem ok_impl_find_1 : fnOk tys c_impl_find_1 r_impl_find_1 3 Tryz.f151 = true := by kernel_rfl
theorem f_impl_find_1 : Tryz.prog.funcs[(151 : Nat)]? = some Tryz.f151 := Tryz.func151
theorem ok_spec_l02Sign : fnOk tys c_spec_l02Sign r_spec_l02Sign 1 Tryz.f160 = true := by kernel_rfl
theorem f_spec_l02Sign : Tryz.prog.funcs[(160 : Nat)]? = some Tryz.f160 := Tryz.func160
end Go.Proofs.YtchidkafcdmciaaGreat
