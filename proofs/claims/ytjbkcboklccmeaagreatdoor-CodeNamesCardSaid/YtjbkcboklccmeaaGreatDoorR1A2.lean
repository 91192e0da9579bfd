/-
  Functions of the program as abstract code: printed by a program of mine.
-/
import Derived.Test.YtjbkcboklccmeaaGreatDoorGa
set_option linter.unusedVariables false
set_option linter.unusedSimpArgs false
set_option maxRecDepth 100000
namespace Go.Proofs.YtjbkcboklccmeaaGreatDoor.Abs.R1
/-- (*scribe/code.compiler).call -/
def af103 : AFunc := ⟨2, [],
  (.seq (.ops [
    ⟨some 3, .boxL 0 4 (.tmp 1), none, false⟩] [0, 3])
  (.seq (.ops [
    ⟨some 4, .mov (.const (.int .i64 0)), none, false⟩] [0, 3, 4])
  (.seq (.seq (.ops [
    ⟨some 11, .mov (.tmp 0), none, false⟩,
    ⟨some 12, .nilCheck (.tmp 11), none, false⟩,
    ⟨some 13, .fieldAddr 1 (.tmp 12), none, false⟩,
    ⟨some 14, .load false 1 (.tmp 13), none, false⟩,
    ⟨some 15, .nilCheck (.tmp 14), none, false⟩,
    ⟨some 16, .fieldAddr 0 (.tmp 15), none, false⟩,
    ⟨some 17, .load false 1 (.tmp 16), none, false⟩,
    ⟨some 18, .len .slice (.tmp 17), none, false⟩,
    ⟨some 19, .mov (.const (.int .i64 0)), none, false⟩] [0, 3, 4, 17, 18, 19])
  (.block 0
  (.loop [0, 3, 4, 17, 18, 19]
    (.seq (.ops [
        ⟨some 20, .bin .lss (.tmp 19) (.tmp 18), none, false⟩] [0, 3, 4, 17, 18, 19, 20])
      (.seq (.cond (.tmp 20)
      .skip
      (.exit 0))
      (.seq (.block 1
      (.seq (.ops [
          ⟨some 21, .mov (.tmp 19), none, false⟩,
          ⟨some 22, .indexAddr 7 (.tmp 17) (.tmp 19), none, false⟩,
          ⟨some 23, .load true 7 (.tmp 22), none, false⟩,
          ⟨some 6, .allocL 0 [.str [], .nilSlice, .nilSlice, .str [], .str [], .int .i64 0, .nilSlice], none, false⟩,
          ⟨some 5, .mov (.tmp 21), none, false⟩,
          ⟨none, .storeL 7 (.tmp 6) (.tmp 23), none, false⟩] [0, 3, 4, 5, 6, 17, 18, 19])
        (.seq (.ops [
          ⟨some 24, .fieldL 0 (.tmp 6), none, false⟩,
          ⟨some 25, .loadL false 1 (.tmp 24), none, false⟩,
          ⟨some 26, .fieldL 1 (.tmp 3), none, false⟩,
          ⟨some 27, .loadL false 1 (.tmp 26), none, false⟩,
          ⟨some 28, .bin .eql (.tmp 25) (.tmp 27), none, false⟩] [0, 3, 4, 5, 17, 18, 19, 28])
        (.cond (.tmp 28)
        (.ops [
            ⟨some 29, .mov (.tmp 5), none, false⟩,
            ⟨some 4, .mov (.tmp 29), none, false⟩] [0, 3, 4, 17, 18, 19])
        .skip))))
      (.ops [
        ⟨some 30, .bin .add (.tmp 19) (.const (.int .i64 1)), none, false⟩,
        ⟨some 19, .mov (.tmp 30), none, false⟩] [0, 3, 4, 17, 18, 19])))))))
  (.seq (.seq (.ops [
    ⟨some 31, .fieldL 3 (.tmp 3), none, false⟩,
    ⟨some 32, .loadL false 1 (.tmp 31), none, false⟩,
    ⟨some 33, .len .slice (.tmp 32), none, false⟩,
    ⟨some 34, .mov (.const (.int .i64 0)), none, false⟩] [0, 3, 4, 32, 33, 34])
  (.block 2
  (.loop [0, 3, 4, 32, 33, 34]
    (.seq (.ops [
        ⟨some 35, .bin .lss (.tmp 34) (.tmp 33), none, false⟩] [0, 3, 4, 32, 33, 34, 35])
      (.seq (.cond (.tmp 35)
      .skip
      (.exit 2))
      (.seq (.block 3
      (.seq (.ops [
          ⟨some 36, .mov (.tmp 34), none, false⟩,
          ⟨some 37, .indexAddr 4 (.tmp 32) (.tmp 34), none, false⟩,
          ⟨some 38, .load true 4 (.tmp 37), none, false⟩,
          ⟨some 8, .allocL 0 [.str [], .str [], .int .i64 0, .nilSlice], none, false⟩,
          ⟨some 7, .mov (.tmp 36), none, false⟩,
          ⟨none, .storeL 4 (.tmp 8) (.tmp 38), none, false⟩] [0, 3, 4, 7, 8, 32, 33, 34])
        (.seq (.ops [
          ⟨some 39, .mov (.tmp 0), none, false⟩,
          ⟨some 40, .nilCheck (.tmp 39), none, false⟩,
          ⟨some 41, .fieldAddr 1 (.tmp 40), none, false⟩,
          ⟨some 42, .load false 1 (.tmp 41), none, false⟩,
          ⟨some 43, .nilCheck (.tmp 42), none, false⟩,
          ⟨some 44, .fieldAddr 0 (.tmp 43), none, false⟩,
          ⟨some 45, .load false 1 (.tmp 44), none, false⟩,
          ⟨some 46, .mov (.tmp 4), none, false⟩,
          ⟨some 47, .indexAddr 7 (.tmp 45) (.tmp 46), none, false⟩,
          ⟨some 48, .fieldAddr 2 (.tmp 47), none, false⟩,
          ⟨some 49, .load false 1 (.tmp 48), none, false⟩,
          ⟨some 50, .mov (.tmp 7), none, false⟩,
          ⟨some 51, .indexAddr 1 (.tmp 49) (.tmp 50), none, false⟩,
          ⟨some 52, .load false 1 (.tmp 51), none, false⟩] [0, 3, 4, 8, 32, 33, 34, 52])
        (.cond (.tmp 52)
        (.seq (.ops [
            ⟨some 54, .mov (.tmp 0), none, false⟩,
            ⟨some 55, .fieldL 1 (.tmp 8), none, false⟩,
            ⟨some 56, .loadL false 1 (.tmp 55), none, false⟩,
            ⟨some 57, .call 68 [(.tmp 54), (.tmp 56)], none, false⟩,
            ⟨some 53, .mov (.tmp 57), none, false⟩,
            ⟨some 58, .extract (.tmp 53) 0, none, false⟩,
            ⟨some 59, .extract (.tmp 53) 1, none, false⟩,
            ⟨some 9, .mov (.tmp 58), none, false⟩,
            ⟨some 10, .mov (.tmp 59), none, false⟩] [0, 3, 4, 9, 10, 32, 33, 34])
          (.ops [
            ⟨some 60, .mov (.tmp 0), none, false⟩,
            ⟨some 61, .mov (.tmp 9), none, false⟩,
            ⟨some 62, .mov (.tmp 10), none, false⟩,
            ⟨some 63, .call 42 [(.tmp 60), (.const (.int .i64 22)), (.tmp 61), (.tmp 62)], none, false⟩] [0, 3, 4, 32, 33, 34]))
        (.ops [
            ⟨some 64, .mov (.tmp 0), none, false⟩,
            ⟨some 65, .loadL true 4 (.tmp 8), none, false⟩,
            ⟨some 66, .call 63 [(.tmp 64), (.tmp 65)], none, false⟩] [0, 3, 4, 32, 33, 34])))))
      (.ops [
        ⟨some 67, .bin .add (.tmp 34) (.const (.int .i64 1)), none, false⟩,
        ⟨some 34, .mov (.tmp 67), none, false⟩] [0, 3, 4, 32, 33, 34])))))))
  (.ops [
    ⟨some 68, .mov (.tmp 0), none, false⟩,
    ⟨some 69, .mov (.tmp 4), none, false⟩,
    ⟨some 70, .fieldL 3 (.tmp 3), none, false⟩,
    ⟨some 71, .loadL false 1 (.tmp 70), none, false⟩,
    ⟨some 72, .len .slice (.tmp 71), none, false⟩,
    ⟨some 73, .call 42 [(.tmp 68), (.const (.int .i64 21)), (.tmp 69), (.tmp 72)], none, false⟩] [])))))⟩
/-- (*scribe/code.compiler).builtin -/
def af104 : AFunc := ⟨2, [],
  (.seq (.ops [
    ⟨some 3, .boxL 0 4 (.tmp 1), none, false⟩] [0, 3])
  (.seq (.opsD [
    (⟨some 10, .load false 1 (.global 1), none, false⟩, []),
    (⟨some 11, .fieldL 1 (.tmp 3), none, false⟩, []),
    (⟨some 12, .loadL false 1 (.tmp 11), none, false⟩, []),
    (⟨some 13, .call 38 [(.tmp 10), (.tmp 12)], none, false⟩, []),
    (⟨some 14, .fieldL 3 (.tmp 3), none, false⟩, []),
    (⟨some 15, .loadL false 1 (.tmp 14), none, false⟩, []),
    (⟨some 16, .len .slice (.tmp 15), none, false⟩, []),
    (⟨some 4, .mov (.tmp 13), none, false⟩, []),
    (⟨some 5, .mov (.tmp 16), none, false⟩, [])] [0, 3, 4, 5])
  (.seq (.seq (.ops [
    ⟨some 17, .fieldL 1 (.tmp 3), none, false⟩,
    ⟨some 18, .loadL false 1 (.tmp 17), none, false⟩] [0, 3, 4, 5, 18])
  (.block 0
  (.seq (.seq (.ops [
      ⟨some 31, .bin .eql (.tmp 18) (.const (.string ⟨#[115, 117, 98]⟩)), none, false⟩,
      ⟨some 30, .mov (.tmp 31), none, false⟩] [0, 3, 4, 5, 18, 30])
    (.cond (.tmp 30)
    .skip
    (.ops [
        ⟨some 32, .bin .eql (.tmp 18) (.const (.string ⟨#[103, 115, 117, 98]⟩)), none, false⟩,
        ⟨some 30, .mov (.tmp 32), none, false⟩] [0, 3, 4, 5, 18, 30])))
    (.cond (.tmp 30)
    (.seq (.ops [
        ⟨some 33, .mov (.tmp 0), none, false⟩,
        ⟨some 34, .loadL true 4 (.tmp 3), none, false⟩,
        ⟨some 35, .call 123 [(.tmp 33), (.tmp 34)], none, false⟩] [])
      .ret)
    (.seq (.ops [
        ⟨some 37, .bin .eql (.tmp 18) (.const (.string ⟨#[108, 101, 110, 103, 116, 104]⟩)), none, false⟩,
        ⟨some 36, .mov (.tmp 37), none, false⟩] [0, 3, 4, 5, 18, 36])
      (.cond (.tmp 36)
      (.seq (.ops [
          ⟨some 38, .mov (.tmp 5), none, false⟩,
          ⟨some 39, .bin .eql (.tmp 38) (.const (.int .i64 0)), none, false⟩] [0, 3, 4, 5, 39])
        (.cond (.tmp 39)
        (.seq (.ops [
            ⟨some 40, .mov (.tmp 0), none, false⟩,
            ⟨some 41, .call 97 [(.tmp 40), (.const (.int .i64 0))], none, false⟩] [0, 4])
          (.seq (.ops [
            ⟨some 42, .mov (.tmp 0), none, false⟩,
            ⟨some 43, .call 42 [(.tmp 42), (.const (.int .i64 4)), (.const (.int .i64 0)), (.const (.int .i64 0))], none, false⟩] [0, 4])
          (.ops [
            ⟨some 5, .mov (.const (.int .i64 1)), none, false⟩] [0, 4, 5])))
        (.ops [
            ⟨some 44, .mov (.tmp 0), none, false⟩,
            ⟨some 45, .fieldL 3 (.tmp 3), none, false⟩,
            ⟨some 46, .loadL false 1 (.tmp 45), none, false⟩,
            ⟨some 47, .indexAddr 4 (.tmp 46) (.const (.int .i64 0)), none, false⟩,
            ⟨some 48, .load true 4 (.tmp 47), none, false⟩,
            ⟨some 49, .call 63 [(.tmp 44), (.tmp 48)], none, false⟩] [0, 4, 5])))
      (.seq (.ops [
          ⟨some 51, .bin .eql (.tmp 18) (.const (.string ⟨#[115, 112, 108, 105, 116]⟩)), none, false⟩,
          ⟨some 50, .mov (.tmp 51), none, false⟩] [0, 3, 4, 5, 18, 50])
        (.cond (.tmp 50)
        (.seq (.ops [
            ⟨some 52, .mov (.tmp 0), none, false⟩,
            ⟨some 53, .fieldL 3 (.tmp 3), none, false⟩,
            ⟨some 54, .loadL false 1 (.tmp 53), none, false⟩,
            ⟨some 55, .indexAddr 4 (.tmp 54) (.const (.int .i64 0)), none, false⟩,
            ⟨some 56, .load true 4 (.tmp 55), none, false⟩,
            ⟨some 57, .call 63 [(.tmp 52), (.tmp 56)], none, false⟩] [0, 3, 4, 5])
          (.seq (.ops [
            ⟨some 59, .mov (.tmp 0), none, false⟩,
            ⟨some 60, .fieldL 3 (.tmp 3), none, false⟩,
            ⟨some 61, .loadL false 1 (.tmp 60), none, false⟩,
            ⟨some 62, .indexAddr 4 (.tmp 61) (.const (.int .i64 1)), none, false⟩,
            ⟨some 63, .fieldAddr 1 (.tmp 62), none, false⟩,
            ⟨some 64, .load false 1 (.tmp 63), none, false⟩,
            ⟨some 65, .call 68 [(.tmp 59), (.tmp 64)], none, false⟩,
            ⟨some 58, .mov (.tmp 65), none, false⟩,
            ⟨some 66, .extract (.tmp 58) 0, none, false⟩,
            ⟨some 67, .extract (.tmp 58) 1, none, false⟩,
            ⟨some 6, .mov (.tmp 66), none, false⟩,
            ⟨some 7, .mov (.tmp 67), none, false⟩] [0, 3, 4, 5, 6, 7])
          (.seq (.ops [
            ⟨some 68, .mov (.tmp 0), none, false⟩,
            ⟨some 69, .mov (.tmp 6), none, false⟩,
            ⟨some 70, .mov (.tmp 7), none, false⟩,
            ⟨some 71, .call 42 [(.tmp 68), (.const (.int .i64 22)), (.tmp 69), (.tmp 70)], none, false⟩] [0, 3, 4, 5])
          (.seq (.ops [
            ⟨some 72, .mov (.tmp 5), none, false⟩,
            ⟨some 73, .bin .eql (.tmp 72) (.const (.int .i64 3)), none, false⟩] [0, 3, 4, 5, 73])
          (.cond (.tmp 73)
          (.seq (.ops [
              ⟨some 74, .mov (.tmp 0), none, false⟩,
              ⟨some 75, .fieldL 3 (.tmp 3), none, false⟩,
              ⟨some 76, .loadL false 1 (.tmp 75), none, false⟩,
              ⟨some 77, .indexAddr 4 (.tmp 76) (.const (.int .i64 2)), none, false⟩,
              ⟨some 78, .load true 4 (.tmp 77), none, false⟩,
              ⟨some 79, .call 102 [(.tmp 74), (.tmp 78)], none, false⟩] [0, 3, 4, 5])
            (.seq (.ops [
              ⟨some 80, .fieldL 3 (.tmp 3), none, false⟩,
              ⟨some 81, .loadL false 1 (.tmp 80), none, false⟩,
              ⟨some 82, .indexAddr 4 (.tmp 81) (.const (.int .i64 2)), none, false⟩,
              ⟨some 83, .fieldAddr 0 (.tmp 82), none, false⟩,
              ⟨some 84, .load false 1 (.tmp 83), none, false⟩,
              ⟨some 85, .bin .eql (.tmp 84) (.const (.string ⟨#[114, 101]⟩)), none, false⟩] [0, 4, 5, 85])
            (.cond (.tmp 85)
            (.ops [
                ⟨some 5, .mov (.const (.int .i64 4)), none, false⟩] [0, 4, 5])
            .skip)))
          .skip)))))
        (.seq (.ops [
            ⟨some 87, .bin .eql (.tmp 18) (.const (.string ⟨#[109, 97, 116, 99, 104]⟩)), none, false⟩,
            ⟨some 86, .mov (.tmp 87), none, false⟩] [0, 3, 4, 5, 86])
          (.cond (.tmp 86)
          (.seq (.ops [
              ⟨some 88, .mov (.tmp 0), none, false⟩,
              ⟨some 89, .fieldL 3 (.tmp 3), none, false⟩,
              ⟨some 90, .loadL false 1 (.tmp 89), none, false⟩,
              ⟨some 91, .indexAddr 4 (.tmp 90) (.const (.int .i64 0)), none, false⟩,
              ⟨some 92, .load true 4 (.tmp 91), none, false⟩,
              ⟨some 93, .call 63 [(.tmp 88), (.tmp 92)], none, false⟩] [0, 3, 4, 5])
            (.ops [
              ⟨some 94, .mov (.tmp 0), none, false⟩,
              ⟨some 95, .fieldL 3 (.tmp 3), none, false⟩,
              ⟨some 96, .loadL false 1 (.tmp 95), none, false⟩,
              ⟨some 97, .indexAddr 4 (.tmp 96) (.const (.int .i64 1)), none, false⟩,
              ⟨some 98, .load true 4 (.tmp 97), none, false⟩,
              ⟨some 99, .call 102 [(.tmp 94), (.tmp 98)], none, false⟩] [0, 4, 5]))
          (.seq (.ops [
              ⟨some 19, .fieldL 3 (.tmp 3), none, false⟩,
              ⟨some 20, .loadL false 1 (.tmp 19), none, false⟩,
              ⟨some 21, .len .slice (.tmp 20), none, false⟩,
              ⟨some 22, .mov (.const (.int .i64 0)), none, false⟩] [0, 4, 5, 20, 21, 22])
            (.block 1
            (.loop [0, 4, 5, 20, 21, 22]
              (.seq (.ops [
                  ⟨some 23, .bin .lss (.tmp 22) (.tmp 21), none, false⟩] [0, 4, 5, 20, 21, 22, 23])
                (.seq (.cond (.tmp 23)
                .skip
                (.exit 1))
                (.seq (.block 2
                (.seq (.ops [
                    ⟨some 24, .indexAddr 4 (.tmp 20) (.tmp 22), none, false⟩,
                    ⟨some 25, .load true 4 (.tmp 24), none, false⟩,
                    ⟨some 9, .allocL 0 [.str [], .str [], .int .i64 0, .nilSlice], none, false⟩,
                    ⟨none, .storeL 4 (.tmp 9) (.tmp 25), none, false⟩] [0, 4, 5, 9, 20, 21, 22])
                  (.ops [
                    ⟨some 26, .mov (.tmp 0), none, false⟩,
                    ⟨some 27, .loadL true 4 (.tmp 9), none, false⟩,
                    ⟨some 28, .call 63 [(.tmp 26), (.tmp 27)], none, false⟩] [0, 4, 5, 20, 21, 22])))
                (.ops [
                  ⟨some 29, .bin .add (.tmp 22) (.const (.int .i64 1)), none, false⟩,
                  ⟨some 22, .mov (.tmp 29), none, false⟩] [0, 4, 5, 20, 21, 22])))))))))))))))))
  (.ops [
    ⟨some 100, .mov (.tmp 0), none, false⟩,
    ⟨some 101, .mov (.tmp 4), none, false⟩,
    ⟨some 102, .mov (.tmp 5), none, false⟩,
    ⟨some 103, .call 42 [(.tmp 100), (.const (.int .i64 24)), (.tmp 101), (.tmp 102)], none, false⟩] []))))⟩
/-- (*scribe/code.checker).want -/
def af105 : AFunc := ⟨3, [.tmp 6, .tmp 7, .tmp 8],
  (.seq (.ops [
    ⟨some 4, .boxL 0 3 (.tmp 1), none, false⟩,
    ⟨some 5, .boxL 1 3 (.tmp 2), none, false⟩,
    ⟨some 6, .mov (.const (.string ⟨#[]⟩)), none, false⟩,
    ⟨some 7, .mov (.const (.string ⟨#[]⟩)), none, false⟩,
    ⟨some 8, .mov (.const (.bool false)), none, false⟩] [0, 4, 5])
  (.seq (.ops [
    ⟨some 12, .fieldL 2 (.tmp 5), none, false⟩,
    ⟨some 13, .loadL false 1 (.tmp 12), none, false⟩,
    ⟨some 14, .bin .shr (.tmp 13) (.const (.int .u64 1)), none, false⟩,
    ⟨some 9, .mov (.tmp 14), none, false⟩] [0, 4, 5, 9])
  (.seq (.ops [
    ⟨some 15, .mov (.tmp 9), none, false⟩,
    ⟨some 16, .bin .geq (.tmp 15) (.const (.int .i64 0)), none, false⟩,
    ⟨some 17, .mov (.tmp 16), none, false⟩,
    ⟨some 18, .mov (.tmp 9), some (17, true), false⟩,
    ⟨some 19, .load false 1 (.global 3), some (17, true), false⟩,
    ⟨some 20, .len .slice (.tmp 19), some (17, true), false⟩,
    ⟨some 21, .bin .lss (.tmp 18) (.tmp 20), some (17, true), false⟩,
    ⟨some 22, .pick (.tmp 17) (.tmp 21) (.const (.bool false)), none, false⟩,
    ⟨some 10, .mov (.tmp 22), none, false⟩] [0, 4, 5, 9, 10])
  (.seq (.ops [
    ⟨some 11, .mov (.const (.string ⟨#[118]⟩)), none, false⟩] [0, 4, 5, 9, 10, 11])
  (.seq (.seq (.ops [
    ⟨some 23, .mov (.tmp 9), none, false⟩,
    ⟨some 24, .bin .gtr (.tmp 23) (.const (.int .i64 5)), none, false⟩] [0, 4, 5, 10, 11, 24])
  (.cond (.tmp 24)
  (.ops [
      ⟨some 11, .mov (.const (.string ⟨#[]⟩)), none, false⟩] [0, 4, 5, 10, 11])
  .skip))
  (.seq (.seq (.ops [
    ⟨some 25, .fieldL 0 (.tmp 5), none, false⟩,
    ⟨some 26, .loadL false 1 (.tmp 25), none, false⟩] [0, 4, 5, 10, 11, 26])
  (.block 0
  (.seq (.ops [
      ⟨some 28, .bin .eql (.tmp 26) (.const (.int .i64 1)), none, false⟩,
      ⟨some 27, .mov (.tmp 28), none, false⟩] [0, 4, 5, 10, 11, 26, 27])
    (.cond (.tmp 27)
    (.seq (.opsD [
        (⟨some 29, .fieldL 1 (.tmp 5), none, false⟩, []),
        (⟨some 30, .loadL false 1 (.tmp 29), none, false⟩, []),
        (⟨some 31, .bin .geq (.tmp 30) (.const (.int .i64 0)), none, false⟩, []),
        (⟨some 32, .mov (.tmp 31), none, false⟩, []),
        (⟨some 33, .fieldL 1 (.tmp 5), some (32, true), false⟩, []),
        (⟨some 34, .loadL false 1 (.tmp 33), some (32, true), false⟩, []),
        (⟨some 35, .mov (.tmp 0), some (32, true), false⟩, []),
        (⟨some 36, .nilCheck (.tmp 35), some (32, true), false⟩, []),
        (⟨some 37, .fieldAddr 0 (.tmp 36), some (32, true), false⟩, []),
        (⟨some 38, .load false 1 (.tmp 37), some (32, true), false⟩, []),
        (⟨some 39, .nilCheck (.tmp 38), some (32, true), false⟩, []),
        (⟨some 40, .fieldAddr 1 (.tmp 39), some (32, true), false⟩, []),
        (⟨some 41, .load false 1 (.tmp 40), some (32, true), false⟩, []),
        (⟨some 42, .len .slice (.tmp 41), some (32, true), false⟩, []),
        (⟨some 43, .bin .lss (.tmp 34) (.tmp 42), some (32, true), false⟩, []),
        (⟨some 44, .pick (.tmp 32) (.tmp 43) (.const (.bool false)), none, false⟩, []),
        (⟨some 6, .mov (.const (.string ⟨#[]⟩)), none, false⟩, []),
        (⟨some 7, .mov (.const (.string ⟨#[118]⟩)), none, false⟩, []),
        (⟨some 8, .mov (.tmp 44), none, false⟩, [])] [6, 7, 8])
      .ret)
    (.seq (.ops [
        ⟨some 46, .bin .eql (.tmp 26) (.const (.int .i64 2)), none, false⟩,
        ⟨some 45, .mov (.tmp 46), none, false⟩] [0, 4, 5, 10, 11, 26, 45])
      (.cond (.tmp 45)
      (.seq (.opsD [
          (⟨some 47, .fieldL 1 (.tmp 5), none, false⟩, []),
          (⟨some 48, .loadL false 1 (.tmp 47), none, false⟩, []),
          (⟨some 49, .bin .geq (.tmp 48) (.const (.int .i64 0)), none, false⟩, []),
          (⟨some 50, .mov (.tmp 49), none, false⟩, []),
          (⟨some 51, .fieldL 1 (.tmp 5), some (50, true), false⟩, []),
          (⟨some 52, .loadL false 1 (.tmp 51), some (50, true), false⟩, []),
          (⟨some 53, .mov (.tmp 0), some (50, true), false⟩, []),
          (⟨some 54, .nilCheck (.tmp 53), some (50, true), false⟩, []),
          (⟨some 55, .fieldAddr 0 (.tmp 54), some (50, true), false⟩, []),
          (⟨some 56, .load false 1 (.tmp 55), some (50, true), false⟩, []),
          (⟨some 57, .nilCheck (.tmp 56), some (50, true), false⟩, []),
          (⟨some 58, .fieldAddr 2 (.tmp 57), some (50, true), false⟩, []),
          (⟨some 59, .load false 1 (.tmp 58), some (50, true), false⟩, []),
          (⟨some 60, .len .slice (.tmp 59), some (50, true), false⟩, []),
          (⟨some 61, .bin .lss (.tmp 52) (.tmp 60), some (50, true), false⟩, []),
          (⟨some 62, .pick (.tmp 50) (.tmp 61) (.const (.bool false)), none, false⟩, []),
          (⟨some 6, .mov (.const (.string ⟨#[]⟩)), none, false⟩, []),
          (⟨some 7, .mov (.const (.string ⟨#[118]⟩)), none, false⟩, []),
          (⟨some 8, .mov (.tmp 62), none, false⟩, [])] [6, 7, 8])
        .ret)
      (.seq (.ops [
          ⟨some 64, .bin .eql (.tmp 26) (.const (.int .i64 3)), none, false⟩,
          ⟨some 63, .mov (.tmp 64), none, false⟩] [0, 4, 5, 10, 11, 26, 63])
        (.cond (.tmp 63)
        (.seq (.ops [
            ⟨some 65, .mov (.tmp 0), none, false⟩,
            ⟨some 66, .fieldL 0 (.tmp 4), none, false⟩,
            ⟨some 67, .loadL false 1 (.tmp 66), none, false⟩,
            ⟨some 68, .fieldL 1 (.tmp 5), none, false⟩,
            ⟨some 69, .loadL false 1 (.tmp 68), none, false⟩,
            ⟨some 70, .fieldL 2 (.tmp 5), none, false⟩,
            ⟨some 71, .loadL false 1 (.tmp 70), none, false⟩,
            ⟨some 72, .call 124 [(.tmp 65), (.tmp 67), (.tmp 69), (.tmp 71), (.const (.bool false))], none, false⟩,
            ⟨some 6, .mov (.const (.string ⟨#[]⟩)), none, false⟩,
            ⟨some 7, .mov (.const (.string ⟨#[118]⟩)), none, false⟩,
            ⟨some 8, .mov (.tmp 72), none, false⟩] [6, 7, 8])
          .ret)
        (.seq (.ops [
            ⟨some 74, .bin .eql (.tmp 26) (.const (.int .i64 26)), none, false⟩,
            ⟨some 73, .mov (.tmp 74), none, false⟩] [0, 4, 5, 10, 11, 26, 73])
          (.cond (.tmp 73)
          (.seq (.ops [
              ⟨some 6, .mov (.const (.string ⟨#[]⟩)), none, false⟩,
              ⟨some 7, .mov (.const (.string ⟨#[118]⟩)), none, false⟩,
              ⟨some 8, .mov (.const (.bool true)), none, false⟩] [6, 7, 8])
            .ret)
          (.seq (.ops [
              ⟨some 76, .bin .eql (.tmp 26) (.const (.int .i64 22)), none, false⟩,
              ⟨some 75, .mov (.tmp 76), none, false⟩] [0, 4, 5, 10, 11, 26, 75])
            (.cond (.tmp 75)
            (.seq (.ops [
                ⟨some 77, .mov (.tmp 0), none, false⟩,
                ⟨some 78, .fieldL 0 (.tmp 4), none, false⟩,
                ⟨some 79, .loadL false 1 (.tmp 78), none, false⟩,
                ⟨some 80, .fieldL 1 (.tmp 5), none, false⟩,
                ⟨some 81, .loadL false 1 (.tmp 80), none, false⟩,
                ⟨some 82, .fieldL 2 (.tmp 5), none, false⟩,
                ⟨some 83, .loadL false 1 (.tmp 82), none, false⟩,
                ⟨some 84, .call 124 [(.tmp 77), (.tmp 79), (.tmp 81), (.tmp 83), (.const (.bool true))], none, false⟩,
                ⟨some 6, .mov (.const (.string ⟨#[]⟩)), none, false⟩,
                ⟨some 7, .mov (.const (.string ⟨#[97]⟩)), none, false⟩,
                ⟨some 8, .mov (.tmp 84), none, false⟩] [6, 7, 8])
              .ret)
            (.seq (.seq (.ops [
                ⟨some 86, .bin .eql (.tmp 26) (.const (.int .i64 4)), none, false⟩,
                ⟨some 85, .mov (.tmp 86), none, false⟩] [0, 4, 5, 10, 11, 26, 85])
              (.cond (.tmp 85)
              .skip
              (.ops [
                  ⟨some 87, .bin .eql (.tmp 26) (.const (.int .i64 19)), none, false⟩,
                  ⟨some 85, .mov (.tmp 87), none, false⟩] [0, 4, 5, 10, 11, 26, 85])))
              (.cond (.tmp 85)
              (.seq (.ops [
                  ⟨some 6, .mov (.const (.string ⟨#[118]⟩)), none, false⟩,
                  ⟨some 7, .mov (.const (.string ⟨#[118]⟩)), none, false⟩,
                  ⟨some 8, .mov (.const (.bool true)), none, false⟩] [6, 7, 8])
                .ret)
              (.seq (.ops [
                  ⟨some 89, .bin .eql (.tmp 26) (.const (.int .i64 10)), none, false⟩,
                  ⟨some 88, .mov (.tmp 89), none, false⟩] [0, 4, 5, 10, 11, 26, 88])
                (.cond (.tmp 88)
                (.seq (.opsD [
                    (⟨some 90, .fieldL 1 (.tmp 5), none, false⟩, []),
                    (⟨some 91, .loadL false 1 (.tmp 90), none, false⟩, []),
                    (⟨some 92, .bin .geq (.tmp 91) (.const (.int .i64 0)), none, false⟩, []),
                    (⟨some 93, .mov (.tmp 92), none, false⟩, []),
                    (⟨some 94, .fieldL 1 (.tmp 5), some (93, true), false⟩, []),
                    (⟨some 95, .loadL false 1 (.tmp 94), some (93, true), false⟩, []),
                    (⟨some 96, .load false 1 (.global 4), some (93, true), false⟩, []),
                    (⟨some 97, .len .slice (.tmp 96), some (93, true), false⟩, []),
                    (⟨some 98, .bin .lss (.tmp 95) (.tmp 97), some (93, true), false⟩, []),
                    (⟨some 99, .pick (.tmp 93) (.tmp 98) (.const (.bool false)), none, false⟩, []),
                    (⟨some 6, .mov (.const (.string ⟨#[118]⟩)), none, false⟩, []),
                    (⟨some 7, .mov (.const (.string ⟨#[118]⟩)), none, false⟩, []),
                    (⟨some 8, .mov (.tmp 99), none, false⟩, [])] [6, 7, 8])
                  .ret)
                (.seq (.ops [
                    ⟨some 101, .bin .eql (.tmp 26) (.const (.int .i64 9)), none, false⟩,
                    ⟨some 100, .mov (.tmp 101), none, false⟩] [0, 4, 5, 10, 11, 26, 100])
                  (.cond (.tmp 100)
                  (.seq (.opsD [
                      (⟨some 102, .fieldL 1 (.tmp 5), none, false⟩, []),
                      (⟨some 103, .loadL false 1 (.tmp 102), none, false⟩, []),
                      (⟨some 104, .bin .geq (.tmp 103) (.const (.int .i64 0)), none, false⟩, []),
                      (⟨some 105, .mov (.tmp 104), none, false⟩, []),
                      (⟨some 106, .fieldL 1 (.tmp 5), some (105, true), false⟩, []),
                      (⟨some 107, .loadL false 1 (.tmp 106), some (105, true), false⟩, []),
                      (⟨some 108, .load false 1 (.global 5), some (105, true), false⟩, []),
                      (⟨some 109, .len .slice (.tmp 108), some (105, true), false⟩, []),
                      (⟨some 110, .bin .lss (.tmp 107) (.tmp 109), some (105, true), false⟩, []),
                      (⟨some 111, .pick (.tmp 105) (.tmp 110) (.const (.bool false)), none, false⟩, []),
                      (⟨some 6, .mov (.const (.string ⟨#[118, 118]⟩)), none, false⟩, []),
                      (⟨some 7, .mov (.const (.string ⟨#[118]⟩)), none, false⟩, []),
                      (⟨some 8, .mov (.tmp 111), none, false⟩, [])] [6, 7, 8])
                    .ret)
                  (.seq (.ops [
                      ⟨some 113, .bin .eql (.tmp 26) (.const (.int .i64 11)), none, false⟩,
                      ⟨some 112, .mov (.tmp 113), none, false⟩] [0, 4, 5, 10, 11, 26, 112])
                    (.cond (.tmp 112)
                    (.seq (.opsD [
                        (⟨some 114, .fieldL 1 (.tmp 5), none, false⟩, []),
                        (⟨some 115, .loadL false 1 (.tmp 114), none, false⟩, []),
                        (⟨some 116, .bin .eql (.tmp 115) (.const (.int .i64 0)), none, false⟩, []),
                        (⟨some 117, .mov (.tmp 116), none, false⟩, []),
                        (⟨some 118, .fieldL 1 (.tmp 5), some (117, false), false⟩, []),
                        (⟨some 119, .loadL false 1 (.tmp 118), some (117, false), false⟩, []),
                        (⟨some 120, .bin .eql (.tmp 119) (.const (.int .i64 1)), some (117, false), false⟩, []),
                        (⟨some 121, .pick (.tmp 117) (.const (.bool true)) (.tmp 120), none, false⟩, []),
                        (⟨some 6, .mov (.const (.string ⟨#[118, 118]⟩)), none, false⟩, []),
                        (⟨some 7, .mov (.const (.string ⟨#[118]⟩)), none, false⟩, []),
                        (⟨some 8, .mov (.tmp 121), none, false⟩, [])] [6, 7, 8])
                      .ret)
                    (.seq (.seq (.ops [
                        ⟨some 123, .bin .eql (.tmp 26) (.const (.int .i64 5)), none, false⟩,
                        ⟨some 122, .mov (.tmp 123), none, false⟩] [0, 4, 5, 10, 11, 26, 122])
                      (.cond (.tmp 122)
                      .skip
                      (.ops [
                          ⟨some 124, .bin .eql (.tmp 26) (.const (.int .i64 12)), none, false⟩,
                          ⟨some 122, .mov (.tmp 124), none, false⟩] [0, 4, 5, 10, 11, 26, 122])))
                      (.cond (.tmp 122)
                      (.seq (.ops [
                          ⟨some 125, .mov (.tmp 0), none, false⟩,
                          ⟨some 126, .fieldL 0 (.tmp 4), none, false⟩,
                          ⟨some 127, .loadL false 1 (.tmp 126), none, false⟩,
                          ⟨some 128, .fieldL 1 (.tmp 5), none, false⟩,
                          ⟨some 129, .loadL false 1 (.tmp 128), none, false⟩,
                          ⟨some 130, .fieldL 2 (.tmp 5), none, false⟩,
                          ⟨some 131, .loadL false 1 (.tmp 130), none, false⟩,
                          ⟨some 132, .call 124 [(.tmp 125), (.tmp 127), (.tmp 129), (.tmp 131), (.const (.bool true))], none, false⟩,
                          ⟨some 6, .mov (.const (.string ⟨#[118]⟩)), none, false⟩,
                          ⟨some 7, .mov (.const (.string ⟨#[118]⟩)), none, false⟩,
                          ⟨some 8, .mov (.tmp 132), none, false⟩] [6, 7, 8])
                        .ret)
                      (.seq (.ops [
                          ⟨some 134, .bin .eql (.tmp 26) (.const (.int .i64 6)), none, false⟩,
                          ⟨some 133, .mov (.tmp 134), none, false⟩] [0, 4, 5, 10, 11, 26, 133])
                        (.cond (.tmp 133)
                        (.seq (.ops [
                            ⟨some 135, .mov (.tmp 11), none, false⟩,
                            ⟨some 136, .mov (.tmp 10), none, false⟩,
                            ⟨some 137, .mov (.tmp 136), none, false⟩,
                            ⟨some 138, .mov (.tmp 0), some (137, true), false⟩,
                            ⟨some 139, .fieldL 0 (.tmp 4), some (137, true), false⟩,
                            ⟨some 140, .loadL false 1 (.tmp 139), some (137, true), false⟩,
                            ⟨some 141, .fieldL 1 (.tmp 5), some (137, true), false⟩,
                            ⟨some 142, .loadL false 1 (.tmp 141), some (137, true), false⟩,
                            ⟨some 143, .fieldL 2 (.tmp 5), some (137, true), false⟩,
                            ⟨some 144, .loadL false 1 (.tmp 143), some (137, true), false⟩,
                            ⟨some 145, .bin .and (.tmp 144) (.const (.int .i64 1)), some (137, true), false⟩,
                            ⟨some 146, .call 124 [(.tmp 138), (.tmp 140), (.tmp 142), (.tmp 145), (.const (.bool false))], some (137, true), false⟩,
                            ⟨some 147, .pick (.tmp 137) (.tmp 146) (.const (.bool false)), none, false⟩,
                            ⟨some 6, .mov (.tmp 135), none, false⟩,
                            ⟨some 7, .mov (.const (.string ⟨#[118]⟩)), none, false⟩,
                            ⟨some 8, .mov (.tmp 147), none, false⟩] [6, 7, 8])
                          .ret)
                        (.seq (.ops [
                            ⟨some 149, .bin .eql (.tmp 26) (.const (.int .i64 8)), none, false⟩,
                            ⟨some 148, .mov (.tmp 149), none, false⟩] [0, 4, 5, 10, 11, 26, 148])
                          (.cond (.tmp 148)
                          (.seq (.ops [
                              ⟨some 150, .mov (.tmp 11), none, false⟩,
                              ⟨some 151, .bin .add (.const (.string ⟨#[118]⟩)) (.tmp 150), none, false⟩,
                              ⟨some 152, .mov (.tmp 10), none, false⟩,
                              ⟨some 153, .mov (.tmp 152), none, false⟩,
                              ⟨some 154, .mov (.tmp 0), some (153, true), false⟩,
                              ⟨some 155, .fieldL 0 (.tmp 4), some (153, true), false⟩,
                              ⟨some 156, .loadL false 1 (.tmp 155), some (153, true), false⟩,
                              ⟨some 157, .fieldL 1 (.tmp 5), some (153, true), false⟩,
                              ⟨some 158, .loadL false 1 (.tmp 157), some (153, true), false⟩,
                              ⟨some 159, .fieldL 2 (.tmp 5), some (153, true), false⟩,
                              ⟨some 160, .loadL false 1 (.tmp 159), some (153, true), false⟩,
                              ⟨some 161, .bin .and (.tmp 160) (.const (.int .i64 1)), some (153, true), false⟩,
                              ⟨some 162, .call 124 [(.tmp 154), (.tmp 156), (.tmp 158), (.tmp 161), (.const (.bool true))], some (153, true), false⟩,
                              ⟨some 163, .pick (.tmp 153) (.tmp 162) (.const (.bool false)), none, false⟩,
                              ⟨some 6, .mov (.tmp 151), none, false⟩,
                              ⟨some 7, .mov (.const (.string ⟨#[118]⟩)), none, false⟩,
                              ⟨some 8, .mov (.tmp 163), none, false⟩] [6, 7, 8])
                            .ret)
                          (.seq (.ops [
                              ⟨some 165, .bin .eql (.tmp 26) (.const (.int .i64 7)), none, false⟩,
                              ⟨some 164, .mov (.tmp 165), none, false⟩] [0, 4, 5, 26, 164])
                            (.cond (.tmp 164)
                            (.seq (.seq (.ops [
                                ⟨some 166, .fieldL 2 (.tmp 5), none, false⟩,
                                ⟨some 167, .loadL false 1 (.tmp 166), none, false⟩,
                                ⟨some 168, .bin .gtr (.tmp 167) (.const (.int .i64 5)), none, false⟩] [5, 168])
                              (.cond (.tmp 168)
                              (.seq (.opsD [
                                  (⟨some 169, .fieldL 2 (.tmp 5), none, false⟩, []),
                                  (⟨some 170, .loadL false 1 (.tmp 169), none, false⟩, []),
                                  (⟨some 171, .load false 1 (.global 3), none, false⟩, []),
                                  (⟨some 172, .len .slice (.tmp 171), none, false⟩, []),
                                  (⟨some 173, .bin .lss (.tmp 170) (.tmp 172), none, false⟩, []),
                                  (⟨some 6, .mov (.const (.string ⟨#[118]⟩)), none, false⟩, []),
                                  (⟨some 7, .mov (.const (.string ⟨#[118]⟩)), none, false⟩, []),
                                  (⟨some 8, .mov (.tmp 173), none, false⟩, [])] [6, 7, 8])
                                .ret)
                              .skip))
                              (.seq (.opsD [
                                (⟨some 174, .fieldL 2 (.tmp 5), none, false⟩, []),
                                (⟨some 175, .loadL false 1 (.tmp 174), none, false⟩, []),
                                (⟨some 176, .bin .geq (.tmp 175) (.const (.int .i64 0)), none, false⟩, []),
                                (⟨some 6, .mov (.const (.string ⟨#[118, 118]⟩)), none, false⟩, []),
                                (⟨some 7, .mov (.const (.string ⟨#[118]⟩)), none, false⟩, []),
                                (⟨some 8, .mov (.tmp 176), none, false⟩, [])] [6, 7, 8])
                              .ret))
                            (.seq (.ops [
                                ⟨some 178, .bin .eql (.tmp 26) (.const (.int .i64 13)), none, false⟩,
                                ⟨some 177, .mov (.tmp 178), none, false⟩] [0, 4, 5, 26, 177])
                              (.cond (.tmp 177)
                              (.seq (.ops [
                                  ⟨some 179, .mov (.tmp 0), none, false⟩,
                                  ⟨some 180, .fieldL 0 (.tmp 4), none, false⟩,
                                  ⟨some 181, .loadL false 1 (.tmp 180), none, false⟩,
                                  ⟨some 182, .fieldL 1 (.tmp 5), none, false⟩,
                                  ⟨some 183, .loadL false 1 (.tmp 182), none, false⟩,
                                  ⟨some 184, .fieldL 2 (.tmp 5), none, false⟩,
                                  ⟨some 185, .loadL false 1 (.tmp 184), none, false⟩,
                                  ⟨some 186, .call 124 [(.tmp 179), (.tmp 181), (.tmp 183), (.tmp 185), (.const (.bool true))], none, false⟩,
                                  ⟨some 6, .mov (.const (.string ⟨#[118]⟩)), none, false⟩,
                                  ⟨some 7, .mov (.const (.string ⟨#[]⟩)), none, false⟩,
                                  ⟨some 8, .mov (.tmp 186), none, false⟩] [6, 7, 8])
                                .ret)
                              (.seq (.ops [
                                  ⟨some 188, .bin .eql (.tmp 26) (.const (.int .i64 14)), none, false⟩,
                                  ⟨some 187, .mov (.tmp 188), none, false⟩] [0, 4, 5, 26, 187])
                                (.cond (.tmp 187)
                                (.seq (.ops [
                                    ⟨some 189, .mov (.tmp 0), none, false⟩,
                                    ⟨some 190, .fieldL 0 (.tmp 4), none, false⟩,
                                    ⟨some 191, .loadL false 1 (.tmp 190), none, false⟩,
                                    ⟨some 192, .fieldL 1 (.tmp 5), none, false⟩,
                                    ⟨some 193, .loadL false 1 (.tmp 192), none, false⟩,
                                    ⟨some 194, .fieldL 2 (.tmp 5), none, false⟩,
                                    ⟨some 195, .loadL false 1 (.tmp 194), none, false⟩,
                                    ⟨some 196, .call 124 [(.tmp 189), (.tmp 191), (.tmp 193), (.tmp 195), (.const (.bool true))], none, false⟩,
                                    ⟨some 6, .mov (.const (.string ⟨#[]⟩)), none, false⟩,
                                    ⟨some 7, .mov (.const (.string ⟨#[]⟩)), none, false⟩,
                                    ⟨some 8, .mov (.tmp 196), none, false⟩] [6, 7, 8])
                                  .ret)
                                (.seq (.seq (.ops [
                                    ⟨some 198, .bin .eql (.tmp 26) (.const (.int .i64 16)), none, false⟩,
                                    ⟨some 197, .mov (.tmp 198), none, false⟩] [0, 4, 5, 26, 197])
                                  (.cond (.tmp 197)
                                  .skip
                                  (.seq (.ops [
                                      ⟨some 199, .bin .eql (.tmp 26) (.const (.int .i64 17)), none, false⟩,
                                      ⟨some 197, .mov (.tmp 199), none, false⟩] [0, 4, 5, 26, 197])
                                    (.cond (.tmp 197)
                                    .skip
                                    (.ops [
                                        ⟨some 200, .bin .eql (.tmp 26) (.const (.int .i64 18)), none, false⟩,
                                        ⟨some 197, .mov (.tmp 200), none, false⟩] [0, 4, 5, 26, 197])))))
                                  (.cond (.tmp 197)
                                  (.seq (.ops [
                                      ⟨some 6, .mov (.const (.string ⟨#[118]⟩)), none, false⟩,
                                      ⟨some 7, .mov (.const (.string ⟨#[]⟩)), none, false⟩,
                                      ⟨some 8, .mov (.const (.bool true)), none, false⟩] [6, 7, 8])
                                    .ret)
                                  (.seq (.ops [
                                      ⟨some 202, .bin .eql (.tmp 26) (.const (.int .i64 20)), none, false⟩,
                                      ⟨some 201, .mov (.tmp 202), none, false⟩] [0, 4, 5, 26, 201])
                                    (.cond (.tmp 201)
                                    (.seq (.ops [
                                        ⟨some 6, .mov (.const (.string ⟨#[118]⟩)), none, false⟩,
                                        ⟨some 7, .mov (.const (.string ⟨#[118, 118]⟩)), none, false⟩,
                                        ⟨some 8, .mov (.const (.bool true)), none, false⟩] [6, 7, 8])
                                      .ret)
                                    (.seq (.ops [
                                        ⟨some 204, .bin .eql (.tmp 26) (.const (.int .i64 25)), none, false⟩,
                                        ⟨some 203, .mov (.tmp 204), none, false⟩] [0, 4, 5, 26, 203])
                                      (.cond (.tmp 203)
                                      (.seq (.opsD [
                                          (⟨some 205, .fieldL 1 (.tmp 5), none, false⟩, []),
                                          (⟨some 206, .loadL false 1 (.tmp 205), none, false⟩, []),
                                          (⟨some 207, .bin .eql (.tmp 206) (.const (.int .i64 0)), none, false⟩, []),
                                          (⟨some 208, .mov (.tmp 207), none, false⟩, []),
                                          (⟨some 209, .fieldL 1 (.tmp 5), some (208, false), false⟩, []),
                                          (⟨some 210, .loadL false 1 (.tmp 209), some (208, false), false⟩, []),
                                          (⟨some 211, .bin .eql (.tmp 210) (.const (.int .i64 1)), some (208, false), false⟩, []),
                                          (⟨some 212, .pick (.tmp 208) (.const (.bool true)) (.tmp 211), none, false⟩, []),
                                          (⟨some 6, .mov (.const (.string ⟨#[118, 118, 118]⟩)), none, false⟩, []),
                                          (⟨some 7, .mov (.const (.string ⟨#[118]⟩)), none, false⟩, []),
                                          (⟨some 8, .mov (.tmp 212), none, false⟩, [])] [6, 7, 8])
                                        .ret)
                                      (.seq (.ops [
                                          ⟨some 214, .bin .eql (.tmp 26) (.const (.int .i64 23)), none, false⟩,
                                          ⟨some 213, .mov (.tmp 214), none, false⟩] [0, 4, 5, 26, 213])
                                        (.cond (.tmp 213)
                                        (.seq (.opsD [
                                            (⟨some 215, .fieldL 0 (.tmp 4), none, false⟩, []),
                                            (⟨some 216, .loadL false 1 (.tmp 215), none, false⟩, []),
                                            (⟨some 217, .bin .gtr (.tmp 216) (.const (.int .i64 2)), none, false⟩, []),
                                            (⟨some 6, .mov (.const (.string ⟨#[118]⟩)), none, false⟩, []),
                                            (⟨some 7, .mov (.const (.string ⟨#[]⟩)), none, false⟩, []),
                                            (⟨some 8, .mov (.tmp 217), none, false⟩, [])] [6, 7, 8])
                                          .ret)
                                        (.seq (.seq (.ops [
                                            ⟨some 219, .bin .eql (.tmp 26) (.const (.int .i64 15)), none, false⟩,
                                            ⟨some 218, .mov (.tmp 219), none, false⟩] [0, 4, 5, 26, 218])
                                          (.cond (.tmp 218)
                                          .skip
                                          (.seq (.ops [
                                              ⟨some 220, .bin .eql (.tmp 26) (.const (.int .i64 31)), none, false⟩,
                                              ⟨some 218, .mov (.tmp 220), none, false⟩] [0, 4, 5, 26, 218])
                                            (.cond (.tmp 218)
                                            .skip
                                            (.seq (.ops [
                                                ⟨some 221, .bin .eql (.tmp 26) (.const (.int .i64 30)), none, false⟩,
                                                ⟨some 218, .mov (.tmp 221), none, false⟩] [0, 4, 5, 26, 218])
                                              (.cond (.tmp 218)
                                              .skip
                                              (.seq (.ops [
                                                  ⟨some 222, .bin .eql (.tmp 26) (.const (.int .i64 32)), none, false⟩,
                                                  ⟨some 218, .mov (.tmp 222), none, false⟩] [0, 4, 5, 26, 218])
                                                (.cond (.tmp 218)
                                                .skip
                                                (.ops [
                                                    ⟨some 223, .bin .eql (.tmp 26) (.const (.int .i64 34)), none, false⟩,
                                                    ⟨some 218, .mov (.tmp 223), none, false⟩] [0, 4, 5, 26, 218])))))))))
                                          (.cond (.tmp 218)
                                          (.seq (.ops [
                                              ⟨some 6, .mov (.const (.string ⟨#[]⟩)), none, false⟩,
                                              ⟨some 7, .mov (.const (.string ⟨#[]⟩)), none, false⟩,
                                              ⟨some 8, .mov (.const (.bool true)), none, false⟩] [6, 7, 8])
                                            .ret)
                                          (.seq (.ops [
                                              ⟨some 225, .bin .eql (.tmp 26) (.const (.int .i64 29)), none, false⟩,
                                              ⟨some 224, .mov (.tmp 225), none, false⟩] [0, 4, 5, 224])
                                            (.cond (.tmp 224)
                                            (.seq (.ops [
                                                ⟨some 226, .mov (.tmp 0), none, false⟩,
                                                ⟨some 227, .fieldL 0 (.tmp 4), none, false⟩,
                                                ⟨some 228, .loadL false 1 (.tmp 227), none, false⟩,
                                                ⟨some 229, .fieldL 1 (.tmp 5), none, false⟩,
                                                ⟨some 230, .loadL false 1 (.tmp 229), none, false⟩,
                                                ⟨some 231, .fieldL 2 (.tmp 5), none, false⟩,
                                                ⟨some 232, .loadL false 1 (.tmp 231), none, false⟩,
                                                ⟨some 233, .call 124 [(.tmp 226), (.tmp 228), (.tmp 230), (.tmp 232), (.const (.bool true))], none, false⟩,
                                                ⟨some 6, .mov (.const (.string ⟨#[]⟩)), none, false⟩,
                                                ⟨some 7, .mov (.const (.string ⟨#[]⟩)), none, false⟩,
                                                ⟨some 8, .mov (.tmp 233), none, false⟩] [6, 7, 8])
                                              .ret)
                                            .skip))))))))))))))))))))))))))))))))))))))))))))
  (.seq (.ops [
    ⟨some 234, .mov (.tmp 0), none, false⟩,
    ⟨some 235, .loadL true 3 (.tmp 5), none, false⟩,
    ⟨some 236, .call 125 [(.tmp 234), (.tmp 235)], none, false⟩,
    ⟨some 237, .extract (.tmp 236) 0, none, false⟩,
    ⟨some 238, .extract (.tmp 236) 1, none, false⟩,
    ⟨some 239, .extract (.tmp 236) 2, none, false⟩,
    ⟨some 6, .mov (.tmp 237), none, false⟩,
    ⟨some 7, .mov (.tmp 238), none, false⟩,
    ⟨some 8, .mov (.tmp 239), none, false⟩] [6, 7, 8])
  .ret)))))))⟩
/-- scribe/scriberef15.needs -/
def af106 : AFunc := ⟨3, [.tmp 6, .tmp 7, .tmp 8],
  (.seq (.ops [
    ⟨some 3, .boxL 0 9 (.tmp 0), none, false⟩,
    ⟨some 5, .boxL 1 3 (.tmp 2), none, false⟩,
    ⟨some 6, .mov (.const (.string ⟨#[]⟩)), none, false⟩,
    ⟨some 7, .mov (.const (.string ⟨#[]⟩)), none, false⟩,
    ⟨some 8, .mov (.const (.bool false)), none, false⟩] [1, 3, 5])
  (.seq (.ops [
    ⟨some 13, .fieldL 2 (.tmp 5), none, false⟩,
    ⟨some 14, .loadL false 1 (.tmp 13), none, false⟩,
    ⟨some 15, .call 126 [(.tmp 14)], none, false⟩,
    ⟨some 16, .bin .geq (.tmp 15) (.const (.int .i64 0)), none, false⟩,
    ⟨some 17, .mov (.tmp 16), none, false⟩,
    ⟨some 18, .fieldL 2 (.tmp 5), some (17, true), false⟩,
    ⟨some 19, .loadL false 1 (.tmp 18), some (17, true), false⟩,
    ⟨some 20, .call 126 [(.tmp 19)], some (17, true), false⟩,
    ⟨some 21, .bin .lss (.tmp 20) (.const (.int .i64 10)), some (17, true), false⟩,
    ⟨some 22, .pick (.tmp 17) (.tmp 21) (.const (.bool false)), none, false⟩,
    ⟨some 9, .mov (.tmp 22), none, false⟩] [1, 3, 5, 9])
  (.seq (.ops [
    ⟨some 10, .mov (.const (.string ⟨#[118]⟩)), none, false⟩] [1, 3, 5, 9, 10])
  (.seq (.seq (.ops [
    ⟨some 23, .fieldL 2 (.tmp 5), none, false⟩,
    ⟨some 24, .loadL false 1 (.tmp 23), none, false⟩,
    ⟨some 25, .call 126 [(.tmp 24)], none, false⟩,
    ⟨some 26, .bin .gtr (.tmp 25) (.const (.int .i64 5)), none, false⟩] [1, 3, 5, 9, 10, 26])
  (.cond (.tmp 26)
  (.ops [
      ⟨some 10, .mov (.const (.string ⟨#[]⟩)), none, false⟩] [1, 3, 5, 9, 10])
  .skip))
  (.seq (.seq (.ops [
    ⟨some 27, .fieldL 0 (.tmp 5), none, false⟩,
    ⟨some 28, .loadL false 1 (.tmp 27), none, false⟩] [1, 3, 5, 9, 10, 28])
  (.block 0
  (.seq (.ops [
      ⟨some 30, .bin .eql (.tmp 28) (.const (.int .i64 1)), none, false⟩,
      ⟨some 29, .mov (.tmp 30), none, false⟩] [1, 3, 5, 9, 10, 28, 29])
    (.cond (.tmp 29)
    (.seq (.opsD [
        (⟨some 31, .fieldL 1 (.tmp 5), none, false⟩, []),
        (⟨some 32, .loadL false 1 (.tmp 31), none, false⟩, []),
        (⟨some 33, .bin .geq (.tmp 32) (.const (.int .i64 0)), none, false⟩, []),
        (⟨some 34, .mov (.tmp 33), none, false⟩, []),
        (⟨some 35, .fieldL 1 (.tmp 5), some (34, true), false⟩, []),
        (⟨some 36, .loadL false 1 (.tmp 35), some (34, true), false⟩, []),
        (⟨some 37, .fieldL 1 (.tmp 3), some (34, true), false⟩, []),
        (⟨some 38, .loadL false 1 (.tmp 37), some (34, true), false⟩, []),
        (⟨some 39, .len .slice (.tmp 38), some (34, true), false⟩, []),
        (⟨some 40, .bin .lss (.tmp 36) (.tmp 39), some (34, true), false⟩, []),
        (⟨some 41, .pick (.tmp 34) (.tmp 40) (.const (.bool false)), none, false⟩, []),
        (⟨some 6, .mov (.const (.string ⟨#[]⟩)), none, false⟩, []),
        (⟨some 7, .mov (.const (.string ⟨#[118]⟩)), none, false⟩, []),
        (⟨some 8, .mov (.tmp 41), none, false⟩, [])] [6, 7, 8])
      .ret)
    (.seq (.ops [
        ⟨some 43, .bin .eql (.tmp 28) (.const (.int .i64 2)), none, false⟩,
        ⟨some 42, .mov (.tmp 43), none, false⟩] [1, 3, 5, 9, 10, 28, 42])
      (.cond (.tmp 42)
      (.seq (.opsD [
          (⟨some 44, .fieldL 1 (.tmp 5), none, false⟩, []),
          (⟨some 45, .loadL false 1 (.tmp 44), none, false⟩, []),
          (⟨some 46, .bin .geq (.tmp 45) (.const (.int .i64 0)), none, false⟩, []),
          (⟨some 47, .mov (.tmp 46), none, false⟩, []),
          (⟨some 48, .fieldL 1 (.tmp 5), some (47, true), false⟩, []),
          (⟨some 49, .loadL false 1 (.tmp 48), some (47, true), false⟩, []),
          (⟨some 50, .fieldL 2 (.tmp 3), some (47, true), false⟩, []),
          (⟨some 51, .loadL false 1 (.tmp 50), some (47, true), false⟩, []),
          (⟨some 52, .bin .lss (.tmp 49) (.tmp 51), some (47, true), false⟩, []),
          (⟨some 53, .pick (.tmp 47) (.tmp 52) (.const (.bool false)), none, false⟩, []),
          (⟨some 6, .mov (.const (.string ⟨#[]⟩)), none, false⟩, []),
          (⟨some 7, .mov (.const (.string ⟨#[118]⟩)), none, false⟩, []),
          (⟨some 8, .mov (.tmp 53), none, false⟩, [])] [6, 7, 8])
        .ret)
      (.seq (.ops [
          ⟨some 55, .bin .eql (.tmp 28) (.const (.int .i64 3)), none, false⟩,
          ⟨some 54, .mov (.tmp 55), none, false⟩] [1, 3, 5, 9, 10, 28, 54])
        (.cond (.tmp 54)
        (.seq (.ops [
            ⟨some 56, .loadL true 9 (.tmp 3), none, false⟩,
            ⟨some 57, .mov (.tmp 1), none, false⟩,
            ⟨some 58, .fieldL 1 (.tmp 5), none, false⟩,
            ⟨some 59, .loadL false 1 (.tmp 58), none, false⟩,
            ⟨some 60, .fieldL 2 (.tmp 5), none, false⟩,
            ⟨some 61, .loadL false 1 (.tmp 60), none, false⟩,
            ⟨some 62, .call 127 [(.tmp 56), (.tmp 57), (.tmp 59), (.tmp 61), (.const (.bool false))], none, false⟩,
            ⟨some 6, .mov (.const (.string ⟨#[]⟩)), none, false⟩,
            ⟨some 7, .mov (.const (.string ⟨#[118]⟩)), none, false⟩,
            ⟨some 8, .mov (.tmp 62), none, false⟩] [6, 7, 8])
          .ret)
        (.seq (.seq (.ops [
            ⟨some 64, .bin .eql (.tmp 28) (.const (.int .i64 4)), none, false⟩,
            ⟨some 63, .mov (.tmp 64), none, false⟩] [1, 3, 5, 9, 10, 28, 63])
          (.cond (.tmp 63)
          .skip
          (.ops [
              ⟨some 65, .bin .eql (.tmp 28) (.const (.int .i64 19)), none, false⟩,
              ⟨some 63, .mov (.tmp 65), none, false⟩] [1, 3, 5, 9, 10, 28, 63])))
          (.cond (.tmp 63)
          (.seq (.ops [
              ⟨some 6, .mov (.const (.string ⟨#[118]⟩)), none, false⟩,
              ⟨some 7, .mov (.const (.string ⟨#[118]⟩)), none, false⟩,
              ⟨some 8, .mov (.const (.bool true)), none, false⟩] [6, 7, 8])
            .ret)
          (.seq (.seq (.ops [
              ⟨some 67, .bin .eql (.tmp 28) (.const (.int .i64 5)), none, false⟩,
              ⟨some 66, .mov (.tmp 67), none, false⟩] [1, 3, 5, 9, 10, 28, 66])
            (.cond (.tmp 66)
            .skip
            (.ops [
                ⟨some 68, .bin .eql (.tmp 28) (.const (.int .i64 12)), none, false⟩,
                ⟨some 66, .mov (.tmp 68), none, false⟩] [1, 3, 5, 9, 10, 28, 66])))
            (.cond (.tmp 66)
            (.seq (.ops [
                ⟨some 69, .loadL true 9 (.tmp 3), none, false⟩,
                ⟨some 70, .mov (.tmp 1), none, false⟩,
                ⟨some 71, .fieldL 1 (.tmp 5), none, false⟩,
                ⟨some 72, .loadL false 1 (.tmp 71), none, false⟩,
                ⟨some 73, .fieldL 2 (.tmp 5), none, false⟩,
                ⟨some 74, .loadL false 1 (.tmp 73), none, false⟩,
                ⟨some 75, .call 127 [(.tmp 69), (.tmp 70), (.tmp 72), (.tmp 74), (.const (.bool true))], none, false⟩,
                ⟨some 6, .mov (.const (.string ⟨#[118]⟩)), none, false⟩,
                ⟨some 7, .mov (.const (.string ⟨#[118]⟩)), none, false⟩,
                ⟨some 8, .mov (.tmp 75), none, false⟩] [6, 7, 8])
              .ret)
            (.seq (.ops [
                ⟨some 77, .bin .eql (.tmp 28) (.const (.int .i64 6)), none, false⟩,
                ⟨some 76, .mov (.tmp 77), none, false⟩] [1, 3, 5, 9, 10, 28, 76])
              (.cond (.tmp 76)
              (.seq (.opsD [
                  (⟨some 78, .mov (.tmp 10), none, false⟩, []),
                  (⟨some 79, .mov (.tmp 9), none, false⟩, []),
                  (⟨some 80, .mov (.tmp 79), none, false⟩, []),
                  (⟨some 81, .loadL true 9 (.tmp 3), some (80, true), false⟩, []),
                  (⟨some 82, .mov (.tmp 1), some (80, true), false⟩, []),
                  (⟨some 83, .fieldL 1 (.tmp 5), some (80, true), false⟩, []),
                  (⟨some 84, .loadL false 1 (.tmp 83), some (80, true), false⟩, []),
                  (⟨some 85, .fieldL 2 (.tmp 5), some (80, true), false⟩, []),
                  (⟨some 86, .loadL false 1 (.tmp 85), some (80, true), false⟩, []),
                  (⟨some 87, .call 128 [(.tmp 86)], some (80, true), false⟩, []),
                  (⟨some 88, .call 127 [(.tmp 81), (.tmp 82), (.tmp 84), (.tmp 87), (.const (.bool false))], some (80, true), false⟩, []),
                  (⟨some 89, .pick (.tmp 80) (.tmp 88) (.const (.bool false)), none, false⟩, []),
                  (⟨some 6, .mov (.tmp 78), none, false⟩, []),
                  (⟨some 7, .mov (.const (.string ⟨#[118]⟩)), none, false⟩, []),
                  (⟨some 8, .mov (.tmp 89), none, false⟩, [])] [6, 7, 8])
                .ret)
              (.seq (.ops [
                  ⟨some 91, .bin .eql (.tmp 28) (.const (.int .i64 7)), none, false⟩,
                  ⟨some 90, .mov (.tmp 91), none, false⟩] [1, 3, 5, 9, 10, 28, 90])
                (.cond (.tmp 90)
                (.seq (.seq (.ops [
                    ⟨some 92, .fieldL 2 (.tmp 5), none, false⟩,
                    ⟨some 93, .loadL false 1 (.tmp 92), none, false⟩,
                    ⟨some 94, .bin .gtr (.tmp 93) (.const (.int .i64 5)), none, false⟩] [5, 94])
                  (.cond (.tmp 94)
                  (.seq (.opsD [
                      (⟨some 95, .fieldL 2 (.tmp 5), none, false⟩, []),
                      (⟨some 96, .loadL false 1 (.tmp 95), none, false⟩, []),
                      (⟨some 97, .bin .lss (.tmp 96) (.const (.int .i64 10)), none, false⟩, []),
                      (⟨some 6, .mov (.const (.string ⟨#[118]⟩)), none, false⟩, []),
                      (⟨some 7, .mov (.const (.string ⟨#[118]⟩)), none, false⟩, []),
                      (⟨some 8, .mov (.tmp 97), none, false⟩, [])] [6, 7, 8])
                    .ret)
                  .skip))
                  (.seq (.opsD [
                    (⟨some 98, .fieldL 2 (.tmp 5), none, false⟩, []),
                    (⟨some 99, .loadL false 1 (.tmp 98), none, false⟩, []),
                    (⟨some 100, .bin .geq (.tmp 99) (.const (.int .i64 0)), none, false⟩, []),
                    (⟨some 6, .mov (.const (.string ⟨#[118, 118]⟩)), none, false⟩, []),
                    (⟨some 7, .mov (.const (.string ⟨#[118]⟩)), none, false⟩, []),
                    (⟨some 8, .mov (.tmp 100), none, false⟩, [])] [6, 7, 8])
                  .ret))
                (.seq (.ops [
                    ⟨some 102, .bin .eql (.tmp 28) (.const (.int .i64 8)), none, false⟩,
                    ⟨some 101, .mov (.tmp 102), none, false⟩] [1, 3, 5, 9, 10, 28, 101])
                  (.cond (.tmp 101)
                  (.seq (.opsD [
                      (⟨some 103, .mov (.tmp 10), none, false⟩, []),
                      (⟨some 104, .bin .add (.const (.string ⟨#[118]⟩)) (.tmp 103), none, false⟩, []),
                      (⟨some 105, .mov (.tmp 9), none, false⟩, []),
                      (⟨some 106, .mov (.tmp 105), none, false⟩, []),
                      (⟨some 107, .loadL true 9 (.tmp 3), some (106, true), false⟩, []),
                      (⟨some 108, .mov (.tmp 1), some (106, true), false⟩, []),
                      (⟨some 109, .fieldL 1 (.tmp 5), some (106, true), false⟩, []),
                      (⟨some 110, .loadL false 1 (.tmp 109), some (106, true), false⟩, []),
                      (⟨some 111, .fieldL 2 (.tmp 5), some (106, true), false⟩, []),
                      (⟨some 112, .loadL false 1 (.tmp 111), some (106, true), false⟩, []),
                      (⟨some 113, .call 128 [(.tmp 112)], some (106, true), false⟩, []),
                      (⟨some 114, .call 127 [(.tmp 107), (.tmp 108), (.tmp 110), (.tmp 113), (.const (.bool true))], some (106, true), false⟩, []),
                      (⟨some 115, .pick (.tmp 106) (.tmp 114) (.const (.bool false)), none, false⟩, []),
                      (⟨some 6, .mov (.tmp 104), none, false⟩, []),
                      (⟨some 7, .mov (.const (.string ⟨#[118]⟩)), none, false⟩, []),
                      (⟨some 8, .mov (.tmp 115), none, false⟩, [])] [6, 7, 8])
                    .ret)
                  (.seq (.ops [
                      ⟨some 117, .bin .eql (.tmp 28) (.const (.int .i64 9)), none, false⟩,
                      ⟨some 116, .mov (.tmp 117), none, false⟩] [1, 3, 5, 28, 116])
                    (.cond (.tmp 116)
                    (.seq (.opsD [
                        (⟨some 118, .fieldL 1 (.tmp 5), none, false⟩, []),
                        (⟨some 119, .loadL false 1 (.tmp 118), none, false⟩, []),
                        (⟨some 120, .bin .geq (.tmp 119) (.const (.int .i64 0)), none, false⟩, []),
                        (⟨some 121, .mov (.tmp 120), none, false⟩, []),
                        (⟨some 122, .fieldL 1 (.tmp 5), some (121, true), false⟩, []),
                        (⟨some 123, .loadL false 1 (.tmp 122), some (121, true), false⟩, []),
                        (⟨some 124, .bin .lss (.tmp 123) (.const (.int .i64 12)), some (121, true), false⟩, []),
                        (⟨some 125, .pick (.tmp 121) (.tmp 124) (.const (.bool false)), none, false⟩, []),
                        (⟨some 6, .mov (.const (.string ⟨#[118, 118]⟩)), none, false⟩, []),
                        (⟨some 7, .mov (.const (.string ⟨#[118]⟩)), none, false⟩, []),
                        (⟨some 8, .mov (.tmp 125), none, false⟩, [])] [6, 7, 8])
                      .ret)
                    (.seq (.ops [
                        ⟨some 127, .bin .eql (.tmp 28) (.const (.int .i64 10)), none, false⟩,
                        ⟨some 126, .mov (.tmp 127), none, false⟩] [1, 3, 5, 28, 126])
                      (.cond (.tmp 126)
                      (.seq (.opsD [
                          (⟨some 128, .fieldL 1 (.tmp 5), none, false⟩, []),
                          (⟨some 129, .loadL false 1 (.tmp 128), none, false⟩, []),
                          (⟨some 130, .bin .geq (.tmp 129) (.const (.int .i64 0)), none, false⟩, []),
                          (⟨some 131, .mov (.tmp 130), none, false⟩, []),
                          (⟨some 132, .fieldL 1 (.tmp 5), some (131, true), false⟩, []),
                          (⟨some 133, .loadL false 1 (.tmp 132), some (131, true), false⟩, []),
                          (⟨some 134, .bin .lss (.tmp 133) (.const (.int .i64 3)), some (131, true), false⟩, []),
                          (⟨some 135, .pick (.tmp 131) (.tmp 134) (.const (.bool false)), none, false⟩, []),
                          (⟨some 6, .mov (.const (.string ⟨#[118]⟩)), none, false⟩, []),
                          (⟨some 7, .mov (.const (.string ⟨#[118]⟩)), none, false⟩, []),
                          (⟨some 8, .mov (.tmp 135), none, false⟩, [])] [6, 7, 8])
                        .ret)
                      (.seq (.ops [
                          ⟨some 137, .bin .eql (.tmp 28) (.const (.int .i64 11)), none, false⟩,
                          ⟨some 136, .mov (.tmp 137), none, false⟩] [1, 3, 5, 28, 136])
                        (.cond (.tmp 136)
                        (.seq (.opsD [
                            (⟨some 138, .fieldL 1 (.tmp 5), none, false⟩, []),
                            (⟨some 139, .loadL false 1 (.tmp 138), none, false⟩, []),
                            (⟨some 140, .bin .eql (.tmp 139) (.const (.int .i64 0)), none, false⟩, []),
                            (⟨some 141, .mov (.tmp 140), none, false⟩, []),
                            (⟨some 142, .fieldL 1 (.tmp 5), some (141, false), false⟩, []),
                            (⟨some 143, .loadL false 1 (.tmp 142), some (141, false), false⟩, []),
                            (⟨some 144, .bin .eql (.tmp 143) (.const (.int .i64 1)), some (141, false), false⟩, []),
                            (⟨some 145, .pick (.tmp 141) (.const (.bool true)) (.tmp 144), none, false⟩, []),
                            (⟨some 6, .mov (.const (.string ⟨#[118, 118]⟩)), none, false⟩, []),
                            (⟨some 7, .mov (.const (.string ⟨#[118]⟩)), none, false⟩, []),
                            (⟨some 8, .mov (.tmp 145), none, false⟩, [])] [6, 7, 8])
                          .ret)
                        (.seq (.ops [
                            ⟨some 147, .bin .eql (.tmp 28) (.const (.int .i64 13)), none, false⟩,
                            ⟨some 146, .mov (.tmp 147), none, false⟩] [1, 3, 5, 28, 146])
                          (.cond (.tmp 146)
                          (.seq (.ops [
                              ⟨some 148, .loadL true 9 (.tmp 3), none, false⟩,
                              ⟨some 149, .mov (.tmp 1), none, false⟩,
                              ⟨some 150, .fieldL 1 (.tmp 5), none, false⟩,
                              ⟨some 151, .loadL false 1 (.tmp 150), none, false⟩,
                              ⟨some 152, .fieldL 2 (.tmp 5), none, false⟩,
                              ⟨some 153, .loadL false 1 (.tmp 152), none, false⟩,
                              ⟨some 154, .call 127 [(.tmp 148), (.tmp 149), (.tmp 151), (.tmp 153), (.const (.bool true))], none, false⟩,
                              ⟨some 6, .mov (.const (.string ⟨#[118]⟩)), none, false⟩,
                              ⟨some 7, .mov (.const (.string ⟨#[]⟩)), none, false⟩,
                              ⟨some 8, .mov (.tmp 154), none, false⟩] [6, 7, 8])
                            .ret)
                          (.seq (.seq (.ops [
                              ⟨some 156, .bin .eql (.tmp 28) (.const (.int .i64 14)), none, false⟩,
                              ⟨some 155, .mov (.tmp 156), none, false⟩] [1, 3, 5, 28, 155])
                            (.cond (.tmp 155)
                            .skip
                            (.ops [
                                ⟨some 157, .bin .eql (.tmp 28) (.const (.int .i64 29)), none, false⟩,
                                ⟨some 155, .mov (.tmp 157), none, false⟩] [1, 3, 5, 28, 155])))
                            (.cond (.tmp 155)
                            (.seq (.ops [
                                ⟨some 158, .loadL true 9 (.tmp 3), none, false⟩,
                                ⟨some 159, .mov (.tmp 1), none, false⟩,
                                ⟨some 160, .fieldL 1 (.tmp 5), none, false⟩,
                                ⟨some 161, .loadL false 1 (.tmp 160), none, false⟩,
                                ⟨some 162, .fieldL 2 (.tmp 5), none, false⟩,
                                ⟨some 163, .loadL false 1 (.tmp 162), none, false⟩,
                                ⟨some 164, .call 127 [(.tmp 158), (.tmp 159), (.tmp 161), (.tmp 163), (.const (.bool true))], none, false⟩,
                                ⟨some 6, .mov (.const (.string ⟨#[]⟩)), none, false⟩,
                                ⟨some 7, .mov (.const (.string ⟨#[]⟩)), none, false⟩,
                                ⟨some 8, .mov (.tmp 164), none, false⟩] [6, 7, 8])
                              .ret)
                            (.seq (.seq (.ops [
                                ⟨some 166, .bin .eql (.tmp 28) (.const (.int .i64 15)), none, false⟩,
                                ⟨some 165, .mov (.tmp 166), none, false⟩] [1, 3, 5, 28, 165])
                              (.cond (.tmp 165)
                              .skip
                              (.seq (.ops [
                                  ⟨some 167, .bin .eql (.tmp 28) (.const (.int .i64 30)), none, false⟩,
                                  ⟨some 165, .mov (.tmp 167), none, false⟩] [1, 3, 5, 28, 165])
                                (.cond (.tmp 165)
                                .skip
                                (.seq (.ops [
                                    ⟨some 168, .bin .eql (.tmp 28) (.const (.int .i64 31)), none, false⟩,
                                    ⟨some 165, .mov (.tmp 168), none, false⟩] [1, 3, 5, 28, 165])
                                  (.cond (.tmp 165)
                                  .skip
                                  (.ops [
                                      ⟨some 169, .bin .eql (.tmp 28) (.const (.int .i64 34)), none, false⟩,
                                      ⟨some 165, .mov (.tmp 169), none, false⟩] [1, 3, 5, 28, 165])))))))
                              (.cond (.tmp 165)
                              (.seq (.ops [
                                  ⟨some 6, .mov (.const (.string ⟨#[]⟩)), none, false⟩,
                                  ⟨some 7, .mov (.const (.string ⟨#[]⟩)), none, false⟩,
                                  ⟨some 8, .mov (.const (.bool true)), none, false⟩] [6, 7, 8])
                                .ret)
                              (.seq (.seq (.ops [
                                  ⟨some 171, .bin .eql (.tmp 28) (.const (.int .i64 16)), none, false⟩,
                                  ⟨some 170, .mov (.tmp 171), none, false⟩] [1, 3, 5, 28, 170])
                                (.cond (.tmp 170)
                                .skip
                                (.seq (.ops [
                                    ⟨some 172, .bin .eql (.tmp 28) (.const (.int .i64 17)), none, false⟩,
                                    ⟨some 170, .mov (.tmp 172), none, false⟩] [1, 3, 5, 28, 170])
                                  (.cond (.tmp 170)
                                  .skip
                                  (.ops [
                                      ⟨some 173, .bin .eql (.tmp 28) (.const (.int .i64 18)), none, false⟩,
                                      ⟨some 170, .mov (.tmp 173), none, false⟩] [1, 3, 5, 28, 170])))))
                                (.cond (.tmp 170)
                                (.seq (.ops [
                                    ⟨some 6, .mov (.const (.string ⟨#[118]⟩)), none, false⟩,
                                    ⟨some 7, .mov (.const (.string ⟨#[]⟩)), none, false⟩,
                                    ⟨some 8, .mov (.const (.bool true)), none, false⟩] [6, 7, 8])
                                  .ret)
                                (.seq (.ops [
                                    ⟨some 175, .bin .eql (.tmp 28) (.const (.int .i64 20)), none, false⟩,
                                    ⟨some 174, .mov (.tmp 175), none, false⟩] [1, 3, 5, 28, 174])
                                  (.cond (.tmp 174)
                                  (.seq (.ops [
                                      ⟨some 6, .mov (.const (.string ⟨#[118]⟩)), none, false⟩,
                                      ⟨some 7, .mov (.const (.string ⟨#[118, 118]⟩)), none, false⟩,
                                      ⟨some 8, .mov (.const (.bool true)), none, false⟩] [6, 7, 8])
                                    .ret)
                                  (.seq (.ops [
                                      ⟨some 177, .bin .eql (.tmp 28) (.const (.int .i64 21)), none, false⟩,
                                      ⟨some 176, .mov (.tmp 177), none, false⟩] [1, 3, 5, 28, 176])
                                    (.cond (.tmp 176)
                                    (.seq (.seq (.opsD [
                                        (⟨some 178, .fieldL 1 (.tmp 5), none, false⟩, []),
                                        (⟨some 179, .loadL false 1 (.tmp 178), none, false⟩, []),
                                        (⟨some 180, .bin .lss (.tmp 179) (.const (.int .i64 0)), none, false⟩, []),
                                        (⟨some 181, .mov (.tmp 180), none, false⟩, []),
                                        (⟨some 182, .fieldL 1 (.tmp 5), some (181, false), false⟩, []),
                                        (⟨some 183, .loadL false 1 (.tmp 182), some (181, false), false⟩, []),
                                        (⟨some 184, .fieldL 3 (.tmp 3), some (181, false), false⟩, []),
                                        (⟨some 185, .loadL false 1 (.tmp 184), some (181, false), false⟩, []),
                                        (⟨some 186, .len .slice (.tmp 185), some (181, false), false⟩, []),
                                        (⟨some 187, .bin .geq (.tmp 183) (.tmp 186), some (181, false), false⟩, []),
                                        (⟨some 188, .pick (.tmp 181) (.const (.bool true)) (.tmp 187), none, false⟩, []),
                                        (⟨some 189, .mov (.tmp 188), none, false⟩, []),
                                        (⟨some 190, .fieldL 2 (.tmp 5), some (189, false), false⟩, []),
                                        (⟨some 191, .loadL false 1 (.tmp 190), some (189, false), false⟩, []),
                                        (⟨some 192, .bin .lss (.tmp 191) (.const (.int .i64 0)), some (189, false), false⟩, []),
                                        (⟨some 193, .pick (.tmp 189) (.const (.bool true)) (.tmp 192), none, false⟩, []),
                                        (⟨some 194, .mov (.tmp 193), none, false⟩, []),
                                        (⟨some 195, .fieldL 2 (.tmp 5), some (194, false), false⟩, []),
                                        (⟨some 196, .loadL false 1 (.tmp 195), some (194, false), false⟩, []),
                                        (⟨some 197, .fieldL 3 (.tmp 3), some (194, false), false⟩, []),
                                        (⟨some 198, .loadL false 1 (.tmp 197), some (194, false), false⟩, []),
                                        (⟨some 199, .fieldL 1 (.tmp 5), some (194, false), false⟩, []),
                                        (⟨some 200, .loadL false 1 (.tmp 199), some (194, false), false⟩, []),
                                        (⟨some 201, .indexAddr 2 (.tmp 198) (.tmp 200), some (194, false), false⟩, []),
                                        (⟨some 202, .fieldAddr 1 (.tmp 201), some (194, false), false⟩, []),
                                        (⟨some 203, .load false 1 (.tmp 202), some (194, false), false⟩, []),
                                        (⟨some 204, .len .slice (.tmp 203), some (194, false), false⟩, []),
                                        (⟨some 205, .bin .gtr (.tmp 196) (.tmp 204), some (194, false), false⟩, []),
                                        (⟨some 206, .pick (.tmp 194) (.const (.bool true)) (.tmp 205), none, false⟩, [])] [3, 5, 206])
                                      (.cond (.tmp 206)
                                      (.seq (.ops [
                                          ⟨some 6, .mov (.const (.string ⟨#[]⟩)), none, false⟩,
                                          ⟨some 7, .mov (.const (.string ⟨#[]⟩)), none, false⟩,
                                          ⟨some 8, .mov (.const (.bool false)), none, false⟩] [6, 7, 8])
                                        .ret)
                                      .skip))
                                      (.seq (.ops [
                                        ⟨some 11, .mov (.const (.string ⟨#[]⟩)), none, false⟩] [3, 5, 11])
                                      (.seq (.seq (.ops [
                                        ⟨some 12, .mov (.const (.int .i64 0)), none, false⟩] [3, 5, 11, 12])
                                      (.block 1
                                      (.loop [3, 5, 11, 12]
                                        (.seq (.seq (.ops [
                                            ⟨some 207, .mov (.tmp 12), none, false⟩,
                                            ⟨some 208, .fieldL 2 (.tmp 5), none, false⟩,
                                            ⟨some 209, .loadL false 1 (.tmp 208), none, false⟩,
                                            ⟨some 210, .bin .lss (.tmp 207) (.tmp 209), none, false⟩] [3, 5, 11, 12, 210])
                                          (.cond (.tmp 210)
                                          .skip
                                          (.exit 1)))
                                          (.seq (.block 2
                                          (.seq (.ops [
                                              ⟨some 213, .fieldL 3 (.tmp 3), none, false⟩,
                                              ⟨some 214, .loadL false 1 (.tmp 213), none, false⟩,
                                              ⟨some 215, .fieldL 1 (.tmp 5), none, false⟩,
                                              ⟨some 216, .loadL false 1 (.tmp 215), none, false⟩,
                                              ⟨some 217, .indexAddr 2 (.tmp 214) (.tmp 216), none, false⟩,
                                              ⟨some 218, .fieldAddr 1 (.tmp 217), none, false⟩,
                                              ⟨some 219, .load false 1 (.tmp 218), none, false⟩,
                                              ⟨some 220, .mov (.tmp 12), none, false⟩,
                                              ⟨some 221, .indexAddr 1 (.tmp 219) (.tmp 220), none, false⟩,
                                              ⟨some 222, .load false 1 (.tmp 221), none, false⟩] [3, 5, 11, 12, 222])
                                            (.cond (.tmp 222)
                                            (.ops [
                                                ⟨some 223, .mov (.tmp 11), none, false⟩,
                                                ⟨some 224, .bin .add (.tmp 223) (.const (.string ⟨#[97]⟩)), none, false⟩,
                                                ⟨some 11, .mov (.tmp 224), none, false⟩] [3, 5, 11, 12])
                                            (.ops [
                                                ⟨some 225, .mov (.tmp 11), none, false⟩,
                                                ⟨some 226, .bin .add (.tmp 225) (.const (.string ⟨#[118]⟩)), none, false⟩,
                                                ⟨some 11, .mov (.tmp 226), none, false⟩] [3, 5, 11, 12]))))
                                          (.ops [
                                            ⟨some 211, .mov (.tmp 12), none, false⟩,
                                            ⟨some 212, .bin .add (.tmp 211) (.const (.int .i64 1)), none, false⟩,
                                            ⟨some 12, .mov (.tmp 212), none, false⟩] [3, 5, 11, 12]))))))
                                      (.seq (.ops [
                                        ⟨some 227, .mov (.tmp 11), none, false⟩,
                                        ⟨some 6, .mov (.tmp 227), none, false⟩,
                                        ⟨some 7, .mov (.const (.string ⟨#[118]⟩)), none, false⟩,
                                        ⟨some 8, .mov (.const (.bool true)), none, false⟩] [6, 7, 8])
                                      .ret))))
                                    (.seq (.ops [
                                        ⟨some 229, .bin .eql (.tmp 28) (.const (.int .i64 22)), none, false⟩,
                                        ⟨some 228, .mov (.tmp 229), none, false⟩] [1, 3, 5, 28, 228])
                                      (.cond (.tmp 228)
                                      (.seq (.ops [
                                          ⟨some 230, .loadL true 9 (.tmp 3), none, false⟩,
                                          ⟨some 231, .mov (.tmp 1), none, false⟩,
                                          ⟨some 232, .fieldL 1 (.tmp 5), none, false⟩,
                                          ⟨some 233, .loadL false 1 (.tmp 232), none, false⟩,
                                          ⟨some 234, .fieldL 2 (.tmp 5), none, false⟩,
                                          ⟨some 235, .loadL false 1 (.tmp 234), none, false⟩,
                                          ⟨some 236, .call 127 [(.tmp 230), (.tmp 231), (.tmp 233), (.tmp 235), (.const (.bool true))], none, false⟩,
                                          ⟨some 6, .mov (.const (.string ⟨#[]⟩)), none, false⟩,
                                          ⟨some 7, .mov (.const (.string ⟨#[97]⟩)), none, false⟩,
                                          ⟨some 8, .mov (.tmp 236), none, false⟩] [6, 7, 8])
                                        .ret)
                                      (.seq (.ops [
                                          ⟨some 238, .bin .eql (.tmp 28) (.const (.int .i64 23)), none, false⟩,
                                          ⟨some 237, .mov (.tmp 238), none, false⟩] [1, 5, 28, 237])
                                        (.cond (.tmp 237)
                                        (.seq (.ops [
                                            ⟨some 239, .mov (.tmp 1), none, false⟩,
                                            ⟨some 240, .bin .gtr (.tmp 239) (.const (.int .i64 2)), none, false⟩,
                                            ⟨some 6, .mov (.const (.string ⟨#[118]⟩)), none, false⟩,
                                            ⟨some 7, .mov (.const (.string ⟨#[]⟩)), none, false⟩,
                                            ⟨some 8, .mov (.tmp 240), none, false⟩] [6, 7, 8])
                                          .ret)
                                        (.seq (.ops [
                                            ⟨some 242, .bin .eql (.tmp 28) (.const (.int .i64 24)), none, false⟩,
                                            ⟨some 241, .mov (.tmp 242), none, false⟩] [1, 5, 28, 241])
                                          (.cond (.tmp 241)
                                          (.seq (.ops [
                                              ⟨some 243, .loadL true 3 (.tmp 5), none, false⟩,
                                              ⟨some 244, .call 129 [(.tmp 243)], none, false⟩,
                                              ⟨some 245, .extract (.tmp 244) 0, none, false⟩,
                                              ⟨some 246, .extract (.tmp 244) 1, none, false⟩,
                                              ⟨some 247, .extract (.tmp 244) 2, none, false⟩,
                                              ⟨some 6, .mov (.tmp 245), none, false⟩,
                                              ⟨some 7, .mov (.tmp 246), none, false⟩,
                                              ⟨some 8, .mov (.tmp 247), none, false⟩] [6, 7, 8])
                                            .ret)
                                          (.seq (.ops [
                                              ⟨some 249, .bin .eql (.tmp 28) (.const (.int .i64 25)), none, false⟩,
                                              ⟨some 248, .mov (.tmp 249), none, false⟩] [1, 5, 28, 248])
                                            (.cond (.tmp 248)
                                            (.seq (.opsD [
                                                (⟨some 250, .fieldL 1 (.tmp 5), none, false⟩, []),
                                                (⟨some 251, .loadL false 1 (.tmp 250), none, false⟩, []),
                                                (⟨some 252, .bin .eql (.tmp 251) (.const (.int .i64 0)), none, false⟩, []),
                                                (⟨some 253, .mov (.tmp 252), none, false⟩, []),
                                                (⟨some 254, .fieldL 1 (.tmp 5), some (253, false), false⟩, []),
                                                (⟨some 255, .loadL false 1 (.tmp 254), some (253, false), false⟩, []),
                                                (⟨some 256, .bin .eql (.tmp 255) (.const (.int .i64 1)), some (253, false), false⟩, []),
                                                (⟨some 257, .pick (.tmp 253) (.const (.bool true)) (.tmp 256), none, false⟩, []),
                                                (⟨some 6, .mov (.const (.string ⟨#[118, 118, 118]⟩)), none, false⟩, []),
                                                (⟨some 7, .mov (.const (.string ⟨#[118]⟩)), none, false⟩, []),
                                                (⟨some 8, .mov (.tmp 257), none, false⟩, [])] [6, 7, 8])
                                              .ret)
                                            (.seq (.ops [
                                                ⟨some 259, .bin .eql (.tmp 28) (.const (.int .i64 26)), none, false⟩,
                                                ⟨some 258, .mov (.tmp 259), none, false⟩] [1, 5, 28, 258])
                                              (.cond (.tmp 258)
                                              (.seq (.ops [
                                                  ⟨some 6, .mov (.const (.string ⟨#[]⟩)), none, false⟩,
                                                  ⟨some 7, .mov (.const (.string ⟨#[118]⟩)), none, false⟩,
                                                  ⟨some 8, .mov (.const (.bool true)), none, false⟩] [6, 7, 8])
                                                .ret)
                                              (.seq (.seq (.ops [
                                                  ⟨some 261, .bin .eql (.tmp 28) (.const (.int .i64 27)), none, false⟩,
                                                  ⟨some 260, .mov (.tmp 261), none, false⟩] [1, 5, 28, 260])
                                                (.cond (.tmp 260)
                                                .skip
                                                (.ops [
                                                    ⟨some 262, .bin .eql (.tmp 28) (.const (.int .i64 28)), none, false⟩,
                                                    ⟨some 260, .mov (.tmp 262), none, false⟩] [1, 5, 28, 260])))
                                                (.cond (.tmp 260)
                                                (.seq (.seq (.ops [
                                                    ⟨some 263, .fieldL 1 (.tmp 5), none, false⟩,
                                                    ⟨some 264, .loadL false 1 (.tmp 263), none, false⟩,
                                                    ⟨some 265, .bin .lss (.tmp 264) (.const (.int .i64 1)), none, false⟩,
                                                    ⟨some 266, .mov (.tmp 265), none, false⟩,
                                                    ⟨some 267, .fieldL 1 (.tmp 5), some (266, false), false⟩,
                                                    ⟨some 268, .loadL false 1 (.tmp 267), some (266, false), false⟩,
                                                    ⟨some 269, .bin .gtr (.tmp 268) (.const (.int .i64 5000)), some (266, false), false⟩,
                                                    ⟨some 270, .pick (.tmp 266) (.const (.bool true)) (.tmp 269), none, false⟩,
                                                    ⟨some 271, .mov (.tmp 270), none, false⟩,
                                                    ⟨some 272, .fieldL 2 (.tmp 5), some (271, false), false⟩,
                                                    ⟨some 273, .loadL false 1 (.tmp 272), some (271, false), false⟩,
                                                    ⟨some 274, .bin .lss (.tmp 273) (.const (.int .i64 0)), some (271, false), false⟩,
                                                    ⟨some 275, .pick (.tmp 271) (.const (.bool true)) (.tmp 274), none, false⟩,
                                                    ⟨some 276, .mov (.tmp 275), none, false⟩,
                                                    ⟨some 277, .fieldL 2 (.tmp 5), some (276, false), false⟩,
                                                    ⟨some 278, .loadL false 1 (.tmp 277), some (276, false), false⟩,
                                                    ⟨some 279, .bin .gtr (.tmp 278) (.const (.int .i64 2)), some (276, false), false⟩,
                                                    ⟨some 280, .pick (.tmp 276) (.const (.bool true)) (.tmp 279), none, false⟩] [5, 280])
                                                  (.cond (.tmp 280)
                                                  (.seq (.ops [
                                                      ⟨some 6, .mov (.const (.string ⟨#[]⟩)), none, false⟩,
                                                      ⟨some 7, .mov (.const (.string ⟨#[]⟩)), none, false⟩,
                                                      ⟨some 8, .mov (.const (.bool false)), none, false⟩] [6, 7, 8])
                                                    .ret)
                                                  .skip))
                                                  (.seq (.seq (.ops [
                                                    ⟨some 281, .fieldL 2 (.tmp 5), none, false⟩,
                                                    ⟨some 282, .loadL false 1 (.tmp 281), none, false⟩,
                                                    ⟨some 283, .bin .gtr (.tmp 282) (.const (.int .i64 0)), none, false⟩] [5, 283])
                                                  (.cond (.tmp 283)
                                                  (.seq (.ops [
                                                      ⟨some 284, .fieldL 1 (.tmp 5), none, false⟩,
                                                      ⟨some 285, .loadL false 1 (.tmp 284), none, false⟩,
                                                      ⟨some 286, .bin .add (.tmp 285) (.const (.int .i64 1)), none, false⟩,
                                                      ⟨some 287, .call 130 [(.tmp 286)], none, false⟩,
                                                      ⟨some 6, .mov (.tmp 287), none, false⟩,
                                                      ⟨some 7, .mov (.const (.string ⟨#[]⟩)), none, false⟩,
                                                      ⟨some 8, .mov (.const (.bool true)), none, false⟩] [6, 7, 8])
                                                    .ret)
                                                  .skip))
                                                  (.seq (.ops [
                                                    ⟨some 288, .fieldL 1 (.tmp 5), none, false⟩,
                                                    ⟨some 289, .loadL false 1 (.tmp 288), none, false⟩,
                                                    ⟨some 290, .call 130 [(.tmp 289)], none, false⟩,
                                                    ⟨some 6, .mov (.tmp 290), none, false⟩,
                                                    ⟨some 7, .mov (.const (.string ⟨#[]⟩)), none, false⟩,
                                                    ⟨some 8, .mov (.const (.bool true)), none, false⟩] [6, 7, 8])
                                                  .ret)))
                                                (.seq (.ops [
                                                    ⟨some 292, .bin .eql (.tmp 28) (.const (.int .i64 32)), none, false⟩,
                                                    ⟨some 291, .mov (.tmp 292), none, false⟩] [1, 5, 28, 291])
                                                  (.cond (.tmp 291)
                                                  (.seq (.ops [
                                                      ⟨some 293, .mov (.tmp 1), none, false⟩,
                                                      ⟨some 294, .bin .eql (.tmp 293) (.const (.int .i64 1)), none, false⟩,
                                                      ⟨some 6, .mov (.const (.string ⟨#[]⟩)), none, false⟩,
                                                      ⟨some 7, .mov (.const (.string ⟨#[]⟩)), none, false⟩,
                                                      ⟨some 8, .mov (.tmp 294), none, false⟩] [6, 7, 8])
                                                    .ret)
                                                  (.seq (.ops [
                                                      ⟨some 296, .bin .eql (.tmp 28) (.const (.int .i64 33)), none, false⟩,
                                                      ⟨some 295, .mov (.tmp 296), none, false⟩] [5, 295])
                                                    (.cond (.tmp 295)
                                                    (.seq (.opsD [
                                                        (⟨some 297, .fieldL 1 (.tmp 5), none, false⟩, []),
                                                        (⟨some 298, .loadL false 1 (.tmp 297), none, false⟩, []),
                                                        (⟨some 299, .max (.tmp 298) (.const (.int .i64 0)), none, false⟩, []),
                                                        (⟨some 300, .min (.tmp 299) (.const (.int .i64 2)), none, false⟩, []),
                                                        (⟨some 301, .call 130 [(.tmp 300)], none, false⟩, []),
                                                        (⟨some 302, .fieldL 1 (.tmp 5), none, false⟩, []),
                                                        (⟨some 303, .loadL false 1 (.tmp 302), none, false⟩, []),
                                                        (⟨some 304, .bin .eql (.tmp 303) (.const (.int .i64 0)), none, false⟩, []),
                                                        (⟨some 305, .mov (.tmp 304), none, false⟩, []),
                                                        (⟨some 306, .fieldL 1 (.tmp 5), some (305, false), false⟩, []),
                                                        (⟨some 307, .loadL false 1 (.tmp 306), some (305, false), false⟩, []),
                                                        (⟨some 308, .bin .eql (.tmp 307) (.const (.int .i64 1)), some (305, false), false⟩, []),
                                                        (⟨some 309, .pick (.tmp 305) (.const (.bool true)) (.tmp 308), none, false⟩, []),
                                                        (⟨some 6, .mov (.tmp 301), none, false⟩, []),
                                                        (⟨some 7, .mov (.const (.string ⟨#[]⟩)), none, false⟩, []),
                                                        (⟨some 8, .mov (.tmp 309), none, false⟩, [])] [6, 7, 8])
                                                      .ret)
                                                    .skip))))))))))))))))))))))))))))))))))))))))))))))))))))
  (.seq (.ops [
    ⟨some 6, .mov (.const (.string ⟨#[]⟩)), none, false⟩,
    ⟨some 7, .mov (.const (.string ⟨#[]⟩)), none, false⟩,
    ⟨some 8, .mov (.const (.bool false)), none, false⟩] [6, 7, 8])
  .ret))))))⟩
/-- (*scribe/lex.lexer).word$1 -/
def af107 : AFunc := ⟨1, [.tmp 2],
  (.seq (.ops [
    ⟨some 2, .mov (.const (.bool false)), none, false⟩] [0])
  (.seq (.ops [
    ⟨some 3, .mov (.tmp 0), none, false⟩,
    ⟨some 4, .call 80 [(.tmp 3)], none, false⟩,
    ⟨some 5, .mov (.tmp 4), none, false⟩,
    ⟨some 6, .mov (.tmp 0), some (5, false), false⟩,
    ⟨some 7, .call 78 [(.tmp 6)], some (5, false), false⟩,
    ⟨some 8, .pick (.tmp 5) (.const (.bool true)) (.tmp 7), none, false⟩,
    ⟨some 2, .mov (.tmp 8), none, false⟩] [2])
  .ret))⟩
/-- (*strings.Builder).String -/
def af108 : AFunc := ⟨1, [.tmp 2],
  (.seq (.ops [
    ⟨some 2, .mov (.const (.string ⟨#[]⟩)), none, false⟩] [0])
  (.seq (.opsD [
    (⟨some 3, .mov (.tmp 0), none, false⟩, []),
    (⟨some 4, .nilCheck (.tmp 3), none, false⟩, []),
    (⟨some 5, .fieldAddr 1 (.tmp 4), none, false⟩, []),
    (⟨some 6, .load false 1 (.tmp 5), none, false⟩, []),
    (⟨some 7, .sliceData (.tmp 6), none, false⟩, []),
    (⟨some 8, .mov (.tmp 0), none, false⟩, []),
    (⟨some 9, .nilCheck (.tmp 8), none, false⟩, []),
    (⟨some 10, .fieldAddr 1 (.tmp 9), none, false⟩, []),
    (⟨some 11, .load false 1 (.tmp 10), none, false⟩, []),
    (⟨some 12, .len .slice (.tmp 11), none, false⟩, []),
    (⟨some 13, .unsafeStr 5 (.tmp 7) (.tmp 12), none, false⟩, []),
    (⟨some 2, .mov (.tmp 13), none, false⟩, [])] [2])
  .ret))⟩
/-- (*strings.Builder).WriteString -/
def af109 : AFunc := ⟨2, [.tmp 4, .tmp 5],
  (.seq (.ops [
    ⟨some 4, .mov (.const (.int .i64 0)), none, false⟩,
    ⟨some 5, .mov (.const .nilIface), none, false⟩] [0, 1])
  (.seq (.ops [
    ⟨some 6, .mov (.tmp 0), none, false⟩,
    ⟨some 7, .call 131 [(.tmp 6)], none, false⟩] [0, 1])
  (.seq (.ops [
    ⟨some 8, .mov (.tmp 0), none, false⟩,
    ⟨some 9, .mov (.tmp 0), none, false⟩,
    ⟨some 10, .nilCheck (.tmp 9), none, false⟩,
    ⟨some 11, .fieldAddr 1 (.tmp 10), none, false⟩,
    ⟨some 12, .load false 1 (.tmp 11), none, false⟩,
    ⟨some 13, .mov (.tmp 1), none, false⟩,
    ⟨some 14, .append false 5 1 1 (.tmp 12) (.tmp 13), none, false⟩,
    ⟨some 15, .nilCheck (.tmp 8), none, false⟩,
    ⟨some 16, .fieldAddr 1 (.tmp 15), none, false⟩,
    ⟨none, .store 1 (.tmp 16) (.tmp 14), none, false⟩] [1])
  (.seq (.ops [
    ⟨some 17, .mov (.tmp 1), none, false⟩,
    ⟨some 18, .len .str (.tmp 17), none, false⟩,
    ⟨some 4, .mov (.tmp 18), none, false⟩,
    ⟨some 5, .mov (.const .nilIface), none, false⟩] [4, 5])
  .ret))))⟩
/-- (*strings.Builder).WriteByte -/
def af110 : AFunc := ⟨2, [.tmp 4],
  (.seq (.ops [
    ⟨some 4, .mov (.const .nilIface), none, false⟩] [0, 1])
  (.seq (.ops [
    ⟨some 5, .mov (.tmp 0), none, false⟩,
    ⟨some 6, .call 131 [(.tmp 5)], none, false⟩] [0, 1])
  (.seq (.ops [
    ⟨some 7, .mov (.tmp 0), none, false⟩,
    ⟨some 8, .mov (.tmp 0), none, false⟩,
    ⟨some 9, .nilCheck (.tmp 8), none, false⟩,
    ⟨some 10, .fieldAddr 1 (.tmp 9), none, false⟩,
    ⟨some 11, .load false 1 (.tmp 10), none, false⟩,
    ⟨some 12, .mov (.tmp 1), none, false⟩,
    ⟨some 13, .buildSlice true 5 1 1 [.int .u8 0] [(0, (.tmp 12))], none, false⟩,
    ⟨some 14, .append false 5 1 1 (.tmp 11) (.tmp 13), none, false⟩,
    ⟨some 15, .nilCheck (.tmp 7), none, false⟩,
    ⟨some 16, .fieldAddr 1 (.tmp 15), none, false⟩,
    ⟨none, .store 1 (.tmp 16) (.tmp 14), none, false⟩] [])
  (.seq (.ops [
    ⟨some 4, .mov (.const .nilIface), none, false⟩] [4])
  .ret))))⟩
/-- (*scribe/parse.parser).choice -/
def af113 : AFunc := ⟨1, [.cellL true 4 2],
  (.seq (.ops [
    ⟨some 2, .allocL 0 [.str [], .str [], .int .i64 0, .nilSlice], none, false⟩] [0, 2])
  (.seq (.ops [
    ⟨some 5, .mov (.tmp 0), none, false⟩,
    ⟨some 6, .call 53 [(.tmp 5), (.const (.string ⟨#[40]⟩))], none, false⟩] [0, 2])
  (.seq (.ops [
    ⟨some 7, .mov (.tmp 0), none, false⟩,
    ⟨some 8, .call 114 [(.tmp 7), (.const (.string ⟨#[41]⟩))], none, false⟩,
    ⟨some 9, .mov (.tmp 0), none, false⟩,
    ⟨some 10, .call 115 [(.tmp 9)], none, false⟩,
    ⟨some 11, .buildSlice true 25 4 2 [.str [], .str [], .int .i64 0, .nilSlice] [(0, (.tmp 8)), (1, (.tmp 10))], none, false⟩,
    ⟨some 12, .call 28 [(.const (.string ⟨#[105, 102]⟩)), (.tmp 11)], none, false⟩,
    ⟨some 3, .allocL 0 [.str [], .str [], .int .i64 0, .nilSlice], none, false⟩,
    ⟨none, .storeL 4 (.tmp 3) (.tmp 12), none, false⟩] [0, 2, 3])
  (.seq (.ops [
    ⟨some 13, .mov (.tmp 0), none, false⟩,
    ⟨some 14, .nilCheck (.tmp 13), none, false⟩,
    ⟨some 15, .fieldAddr 1 (.tmp 14), none, false⟩,
    ⟨some 16, .load false 1 (.tmp 15), none, false⟩,
    ⟨some 4, .mov (.tmp 16), none, false⟩] [0, 2, 3, 4])
  (.seq (.ops [
    ⟨some 17, .mov (.tmp 0), none, false⟩,
    ⟨some 18, .call 54 [(.tmp 17)], none, false⟩] [0, 2, 3, 4])
  (.seq (.seq (.ops [
    ⟨some 19, .mov (.tmp 0), none, false⟩,
    ⟨some 20, .call 49 [(.tmp 19), (.const (.string ⟨#[59]⟩))], none, false⟩] [0, 2, 3, 4, 20])
  (.cond (.tmp 20)
  (.ops [
      ⟨some 21, .mov (.tmp 0), none, false⟩,
      ⟨some 22, .call 54 [(.tmp 21)], none, false⟩] [0, 2, 3, 4])
  .skip))
  (.seq (.seq (.ops [
    ⟨some 23, .mov (.tmp 0), none, false⟩,
    ⟨some 24, .call 49 [(.tmp 23), (.const (.string ⟨#[101, 108, 115, 101]⟩))], none, false⟩] [0, 2, 3, 4, 24])
  (.cond (.tmp 24)
  (.opsD [
      (⟨some 25, .fieldL 3 (.tmp 3), none, false⟩, []),
      (⟨some 26, .loadL false 1 (.tmp 25), none, false⟩, []),
      (⟨some 27, .mov (.tmp 0), none, false⟩, []),
      (⟨some 28, .call 115 [(.tmp 27)], none, false⟩, []),
      (⟨some 29, .buildSlice true 25 4 1 [.str [], .str [], .int .i64 0, .nilSlice] [(0, (.tmp 28))], none, false⟩, []),
      (⟨some 30, .append false 25 4 64 (.tmp 26) (.tmp 29), none, false⟩, []),
      (⟨some 31, .fieldL 3 (.tmp 3), none, false⟩, []),
      (⟨none, .storeL 1 (.tmp 31) (.tmp 30), none, false⟩, [])] [2, 3])
  (.seq (.ops [
      ⟨some 32, .mov (.tmp 0), none, false⟩,
      ⟨some 33, .nilCheck (.tmp 32), none, false⟩,
      ⟨some 34, .fieldAddr 4 (.tmp 33), none, false⟩,
      ⟨some 35, .load false 1 (.tmp 34), none, false⟩,
      ⟨some 36, .bin .eql (.tmp 35) (.const (.int .i64 0)), none, false⟩] [0, 2, 3, 4, 36])
    (.cond (.tmp 36)
    (.ops [
        ⟨some 37, .mov (.tmp 0), none, false⟩,
        ⟨some 38, .mov (.tmp 4), none, false⟩,
        ⟨some 39, .nilCheck (.tmp 37), none, false⟩,
        ⟨some 40, .fieldAddr 1 (.tmp 39), none, false⟩,
        ⟨none, .store 1 (.tmp 40) (.tmp 38), none, false⟩] [2, 3])
    .skip))))
  (.seq (.ops [
    ⟨some 41, .loadL true 4 (.tmp 3), none, false⟩,
    ⟨none, .storeL 4 (.tmp 2) (.tmp 41), none, false⟩] [2])
  .ret))))))))⟩
/-- (*scribe/parse.parser).inside -/
def af114 : AFunc := ⟨2, [.cellL true 4 4],
  (.seq (.ops [
    ⟨some 4, .allocL 0 [.str [], .str [], .int .i64 0, .nilSlice], none, false⟩] [0, 1, 4])
  (.seq (.ops [
    ⟨some 7, .mov (.tmp 0), none, false⟩,
    ⟨some 8, .nilCheck (.tmp 7), none, false⟩,
    ⟨some 9, .fieldAddr 3 (.tmp 8), none, false⟩,
    ⟨some 10, .load false 1 (.tmp 9), none, false⟩,
    ⟨some 5, .mov (.tmp 10), none, false⟩] [0, 1, 4, 5])
  (.seq (.ops [
    ⟨some 11, .mov (.tmp 0), none, false⟩,
    ⟨some 12, .nilCheck (.tmp 11), none, false⟩,
    ⟨some 13, .fieldAddr 3 (.tmp 12), none, false⟩,
    ⟨none, .store 1 (.tmp 13) (.const (.bool false)), none, false⟩] [0, 1, 4, 5])
  (.seq (.ops [
    ⟨some 14, .mov (.tmp 0), none, false⟩,
    ⟨some 15, .call 54 [(.tmp 14)], none, false⟩] [0, 1, 4, 5])
  (.seq (.ops [
    ⟨some 16, .mov (.tmp 0), none, false⟩,
    ⟨some 17, .call 55 [(.tmp 16)], none, false⟩,
    ⟨some 6, .allocL 0 [.str [], .str [], .int .i64 0, .nilSlice], none, false⟩,
    ⟨none, .storeL 4 (.tmp 6) (.tmp 17), none, false⟩] [0, 1, 4, 5, 6])
  (.seq (.ops [
    ⟨some 18, .mov (.tmp 0), none, false⟩,
    ⟨some 19, .call 54 [(.tmp 18)], none, false⟩] [0, 1, 4, 5, 6])
  (.seq (.ops [
    ⟨some 20, .mov (.tmp 0), none, false⟩,
    ⟨some 21, .mov (.tmp 1), none, false⟩,
    ⟨some 22, .call 53 [(.tmp 20), (.tmp 21)], none, false⟩] [0, 4, 5, 6])
  (.seq (.ops [
    ⟨some 23, .mov (.tmp 0), none, false⟩,
    ⟨some 24, .mov (.tmp 5), none, false⟩,
    ⟨some 25, .nilCheck (.tmp 23), none, false⟩,
    ⟨some 26, .fieldAddr 3 (.tmp 25), none, false⟩,
    ⟨none, .store 1 (.tmp 26) (.tmp 24), none, false⟩] [4, 6])
  (.seq (.ops [
    ⟨some 27, .loadL true 4 (.tmp 6), none, false⟩,
    ⟨none, .storeL 4 (.tmp 4) (.tmp 27), none, false⟩] [4])
  .ret)))))))))⟩
/-- (*scribe/parse.parser).body -/
def af115 : AFunc := ⟨1, [.cellL true 4 2],
  (.seq (.ops [
    ⟨some 2, .allocL 0 [.str [], .str [], .int .i64 0, .nilSlice], none, false⟩] [0, 2])
  (.seq (.ops [
    ⟨some 3, .mov (.tmp 0), none, false⟩,
    ⟨some 4, .call 54 [(.tmp 3)], none, false⟩] [0, 2])
  (.seq (.ops [
    ⟨some 5, .mov (.tmp 0), none, false⟩,
    ⟨some 6, .call 88 [(.tmp 5)], none, false⟩,
    ⟨none, .storeL 4 (.tmp 2) (.tmp 6), none, false⟩] [2])
  .ret)))⟩
/-- (*scribe/parse.parser).loop -/
def af116 : AFunc := ⟨1, [.cellL true 4 2],
  (.seq (.ops [
    ⟨some 2, .allocL 0 [.str [], .str [], .int .i64 0, .nilSlice], none, false⟩] [0, 2])
  (.seq (.ops [
    ⟨some 7, .mov (.tmp 0), none, false⟩,
    ⟨some 8, .call 53 [(.tmp 7), (.const (.string ⟨#[40]⟩))], none, false⟩] [0, 2])
  (.seq (.seq (.ops [
    ⟨some 9, .mov (.tmp 0), none, false⟩,
    ⟨some 10, .call 134 [(.tmp 9), (.const (.int .i64 3))], none, false⟩,
    ⟨some 3, .allocL 0 [.int .i64 0, .str [], .int .i64 0], none, false⟩,
    ⟨none, .storeL 3 (.tmp 3) (.tmp 10), none, false⟩] [0, 2, 3])
  (.seq (.ops [
    ⟨some 11, .mov (.tmp 0), none, false⟩,
    ⟨some 12, .call 30 [(.tmp 11)], none, false⟩,
    ⟨some 13, .field false 1 0 (.tmp 12), none, false⟩,
    ⟨some 14, .bin .eql (.tmp 13) (.const (.int .i64 5)), none, false⟩,
    ⟨some 15, .mov (.tmp 14), none, false⟩,
    ⟨some 16, .mov (.tmp 0), some (15, true), false⟩,
    ⟨some 17, .call 134 [(.tmp 16), (.const (.int .i64 1))], some (15, true), false⟩,
    ⟨some 18, .field false 1 0 (.tmp 17), some (15, true), false⟩,
    ⟨some 19, .bin .eql (.tmp 18) (.const (.int .i64 7)), some (15, true), false⟩,
    ⟨some 20, .pick (.tmp 15) (.tmp 19) (.const (.bool false)), none, false⟩,
    ⟨some 21, .mov (.tmp 20), none, false⟩,
    ⟨some 22, .mov (.tmp 0), some (21, true), false⟩,
    ⟨some 23, .call 134 [(.tmp 22), (.const (.int .i64 1))], some (21, true), false⟩,
    ⟨some 24, .field false 1 1 (.tmp 23), some (21, true), false⟩,
    ⟨some 25, .bin .eql (.tmp 24) (.const (.string ⟨#[105, 110]⟩)), some (21, true), false⟩,
    ⟨some 26, .pick (.tmp 21) (.tmp 25) (.const (.bool false)), none, false⟩,
    ⟨some 27, .mov (.tmp 26), none, false⟩,
    ⟨some 28, .mov (.tmp 0), some (27, true), false⟩,
    ⟨some 29, .call 134 [(.tmp 28), (.const (.int .i64 2))], some (27, true), false⟩,
    ⟨some 30, .field false 1 0 (.tmp 29), some (27, true), false⟩,
    ⟨some 31, .bin .eql (.tmp 30) (.const (.int .i64 5)), some (27, true), false⟩,
    ⟨some 32, .pick (.tmp 27) (.tmp 31) (.const (.bool false)), none, false⟩,
    ⟨some 33, .mov (.tmp 32), none, false⟩,
    ⟨some 34, .fieldL 0 (.tmp 3), some (33, true), false⟩,
    ⟨some 35, .loadL false 1 (.tmp 34), some (33, true), false⟩,
    ⟨some 36, .bin .eql (.tmp 35) (.const (.int .i64 8)), some (33, true), false⟩,
    ⟨some 37, .pick (.tmp 33) (.tmp 36) (.const (.bool false)), none, false⟩,
    ⟨some 38, .mov (.tmp 37), none, false⟩,
    ⟨some 39, .fieldL 1 (.tmp 3), some (38, true), false⟩,
    ⟨some 40, .loadL false 1 (.tmp 39), some (38, true), false⟩,
    ⟨some 41, .bin .eql (.tmp 40) (.const (.string ⟨#[41]⟩)), some (38, true), false⟩,
    ⟨some 42, .pick (.tmp 38) (.tmp 41) (.const (.bool false)), none, false⟩] [0, 2, 42])
  (.cond (.tmp 42)
  (.seq (.ops [
      ⟨some 43, .mov (.tmp 0), none, false⟩,
      ⟨some 44, .buildSlice true 3 1 1 [.int .i64 0] [(0, (.const (.int .i64 5)))], none, false⟩,
      ⟨some 45, .call 52 [(.tmp 43), (.tmp 44)], none, false⟩,
      ⟨some 4, .allocL 0 [.int .i64 0, .str [], .int .i64 0], none, false⟩,
      ⟨none, .storeL 3 (.tmp 4) (.tmp 45), none, false⟩] [0, 2, 4])
    (.seq (.ops [
      ⟨some 46, .mov (.tmp 0), none, false⟩,
      ⟨some 47, .call 31 [(.tmp 46)], none, false⟩] [0, 2, 4])
    (.seq (.ops [
      ⟨some 48, .mov (.tmp 0), none, false⟩,
      ⟨some 49, .buildSlice true 3 1 1 [.int .i64 0] [(0, (.const (.int .i64 5)))], none, false⟩,
      ⟨some 50, .call 52 [(.tmp 48), (.tmp 49)], none, false⟩,
      ⟨some 51, .call 51 [(.const (.string ⟨#[110, 97, 109, 101]⟩)), (.tmp 50), (.const (.slice none 0 0))], none, false⟩,
      ⟨some 5, .allocL 0 [.str [], .str [], .int .i64 0, .nilSlice], none, false⟩,
      ⟨none, .storeL 4 (.tmp 5) (.tmp 51), none, false⟩] [0, 2, 4, 5])
    (.seq (.ops [
      ⟨some 52, .mov (.tmp 0), none, false⟩,
      ⟨some 53, .call 31 [(.tmp 52)], none, false⟩] [0, 2, 4, 5])
    (.seq (.opsD [
      (⟨some 54, .loadL true 3 (.tmp 4), none, false⟩, []),
      (⟨some 55, .loadL true 4 (.tmp 5), none, false⟩, []),
      (⟨some 56, .mov (.tmp 0), none, false⟩, []),
      (⟨some 57, .call 115 [(.tmp 56)], none, false⟩, []),
      (⟨some 58, .buildSlice true 25 4 2 [.str [], .str [], .int .i64 0, .nilSlice] [(0, (.tmp 55)), (1, (.tmp 57))], none, false⟩, []),
      (⟨some 59, .call 51 [(.const (.string ⟨#[102, 111, 114, 105, 110]⟩)), (.tmp 54), (.tmp 58)], none, false⟩, []),
      (⟨none, .storeL 4 (.tmp 2) (.tmp 59), none, false⟩, [])] [2])
    .ret)))))
  .skip)))
  (.seq (.ops [
    ⟨some 60, .call 28 [(.const (.string ⟨#[110, 111, 110, 101]⟩)), (.const (.slice none 0 0))], none, false⟩,
    ⟨some 61, .call 28 [(.const (.string ⟨#[110, 111, 110, 101]⟩)), (.const (.slice none 0 0))], none, false⟩,
    ⟨some 62, .call 28 [(.const (.string ⟨#[110, 111, 110, 101]⟩)), (.const (.slice none 0 0))], none, false⟩,
    ⟨some 63, .build [.str [], .str [], .int .i64 0, .nilSlice, .str [], .str [], .int .i64 0, .nilSlice, .str [], .str [], .int .i64 0, .nilSlice] [(0, 4, (.tmp 60)), (4, 4, (.tmp 61)), (8, 4, (.tmp 62))], none, false⟩,
    ⟨some 6, .allocL 0 [.str [], .str [], .int .i64 0, .nilSlice, .str [], .str [], .int .i64 0, .nilSlice, .str [], .str [], .int .i64 0, .nilSlice], none, false⟩,
    ⟨none, .storeL 12 (.tmp 6) (.tmp 63), none, false⟩] [0, 2, 6])
  (.seq (.seq (.ops [
    ⟨some 64, .mov (.tmp 0), none, false⟩,
    ⟨some 65, .buildSlice true 9 1 1 [.str []] [(0, (.const (.string ⟨#[59]⟩)))], none, false⟩,
    ⟨some 66, .call 29 [(.tmp 64), (.tmp 65)], none, false⟩,
    ⟨some 67, .un .not (.tmp 66), none, false⟩] [0, 2, 6, 67])
  (.cond (.tmp 67)
  (.ops [
      ⟨some 68, .mov (.tmp 0), none, false⟩,
      ⟨some 69, .call 117 [(.tmp 68)], none, false⟩,
      ⟨some 70, .idxL 4 3 (.tmp 6) (.const (.int .i64 0)), none, false⟩,
      ⟨none, .storeL 4 (.tmp 70) (.tmp 69), none, false⟩] [0, 2, 6])
  .skip))
  (.seq (.ops [
    ⟨some 71, .mov (.tmp 0), none, false⟩,
    ⟨some 72, .call 53 [(.tmp 71), (.const (.string ⟨#[59]⟩))], none, false⟩] [0, 2, 6])
  (.seq (.ops [
    ⟨some 73, .mov (.tmp 0), none, false⟩,
    ⟨some 74, .call 54 [(.tmp 73)], none, false⟩] [0, 2, 6])
  (.seq (.seq (.ops [
    ⟨some 75, .mov (.tmp 0), none, false⟩,
    ⟨some 76, .buildSlice true 9 1 1 [.str []] [(0, (.const (.string ⟨#[59]⟩)))], none, false⟩,
    ⟨some 77, .call 29 [(.tmp 75), (.tmp 76)], none, false⟩,
    ⟨some 78, .un .not (.tmp 77), none, false⟩] [0, 2, 6, 78])
  (.cond (.tmp 78)
  (.ops [
      ⟨some 79, .mov (.tmp 0), none, false⟩,
      ⟨some 80, .call 55 [(.tmp 79)], none, false⟩,
      ⟨some 81, .idxL 4 3 (.tmp 6) (.const (.int .i64 1)), none, false⟩,
      ⟨none, .storeL 4 (.tmp 81) (.tmp 80), none, false⟩] [0, 2, 6])
  .skip))
  (.seq (.ops [
    ⟨some 82, .mov (.tmp 0), none, false⟩,
    ⟨some 83, .call 53 [(.tmp 82), (.const (.string ⟨#[59]⟩))], none, false⟩] [0, 2, 6])
  (.seq (.ops [
    ⟨some 84, .mov (.tmp 0), none, false⟩,
    ⟨some 85, .call 54 [(.tmp 84)], none, false⟩] [0, 2, 6])
  (.seq (.seq (.ops [
    ⟨some 86, .mov (.tmp 0), none, false⟩,
    ⟨some 87, .buildSlice true 9 1 1 [.str []] [(0, (.const (.string ⟨#[41]⟩)))], none, false⟩,
    ⟨some 88, .call 29 [(.tmp 86), (.tmp 87)], none, false⟩,
    ⟨some 89, .un .not (.tmp 88), none, false⟩] [0, 2, 6, 89])
  (.cond (.tmp 89)
  (.ops [
      ⟨some 90, .mov (.tmp 0), none, false⟩,
      ⟨some 91, .call 117 [(.tmp 90)], none, false⟩,
      ⟨some 92, .idxL 4 3 (.tmp 6) (.const (.int .i64 2)), none, false⟩,
      ⟨none, .storeL 4 (.tmp 92) (.tmp 91), none, false⟩] [0, 2, 6])
  .skip))
  (.seq (.ops [
    ⟨some 93, .mov (.tmp 0), none, false⟩,
    ⟨some 94, .call 53 [(.tmp 93), (.const (.string ⟨#[41]⟩))], none, false⟩] [0, 2, 6])
  (.seq (.opsD [
    (⟨some 95, .idxL 4 3 (.tmp 6) (.const (.int .i64 0)), none, false⟩, []),
    (⟨some 96, .loadL true 4 (.tmp 95), none, false⟩, []),
    (⟨some 97, .idxL 4 3 (.tmp 6) (.const (.int .i64 1)), none, false⟩, []),
    (⟨some 98, .loadL true 4 (.tmp 97), none, false⟩, []),
    (⟨some 99, .idxL 4 3 (.tmp 6) (.const (.int .i64 2)), none, false⟩, []),
    (⟨some 100, .loadL true 4 (.tmp 99), none, false⟩, []),
    (⟨some 101, .mov (.tmp 0), none, false⟩, []),
    (⟨some 102, .call 115 [(.tmp 101)], none, false⟩, []),
    (⟨some 103, .buildSlice true 25 4 4 [.str [], .str [], .int .i64 0, .nilSlice] [(0, (.tmp 96)), (1, (.tmp 98)), (2, (.tmp 100)), (3, (.tmp 102))], none, false⟩, []),
    (⟨some 104, .call 28 [(.const (.string ⟨#[102, 111, 114]⟩)), (.tmp 103)], none, false⟩, []),
    (⟨none, .storeL 4 (.tmp 2) (.tmp 104), none, false⟩, [])] [2])
  .ret)))))))))))))⟩
/-- (*scribe/parse.parser).simple -/
def af117 : AFunc := ⟨1, [.cellL true 4 2],
  (.seq (.ops [
    ⟨some 2, .allocL 0 [.str [], .str [], .int .i64 0, .nilSlice], none, false⟩] [0, 2])
  (.seq (.ops [
    ⟨some 6, .mov (.tmp 0), none, false⟩,
    ⟨some 7, .call 30 [(.tmp 6)], none, false⟩,
    ⟨some 3, .allocL 0 [.int .i64 0, .str [], .int .i64 0], none, false⟩,
    ⟨none, .storeL 3 (.tmp 3) (.tmp 7), none, false⟩] [0, 2, 3])
  (.seq (.seq (.ops [
    ⟨some 8, .fieldL 0 (.tmp 3), none, false⟩,
    ⟨some 9, .loadL false 1 (.tmp 8), none, false⟩,
    ⟨some 10, .bin .neq (.tmp 9) (.const (.int .i64 7)), none, false⟩] [0, 2, 3, 10])
  (.cond (.tmp 10)
  (.seq (.ops [
      ⟨some 11, .mov (.tmp 0), none, false⟩,
      ⟨some 12, .call 55 [(.tmp 11)], none, false⟩,
      ⟨some 13, .buildSlice true 25 4 1 [.str [], .str [], .int .i64 0, .nilSlice] [(0, (.tmp 12))], none, false⟩,
      ⟨some 14, .call 28 [(.const (.string ⟨#[101, 120, 112, 114]⟩)), (.tmp 13)], none, false⟩,
      ⟨none, .storeL 4 (.tmp 2) (.tmp 14), none, false⟩] [2])
    .ret)
  .skip))
  (.seq (.seq (.ops [
    ⟨some 15, .fieldL 1 (.tmp 3), none, false⟩,
    ⟨some 16, .loadL false 1 (.tmp 15), none, false⟩] [0, 2, 3, 16])
  (.block 0
  (.seq (.seq (.ops [
      ⟨some 18, .bin .eql (.tmp 16) (.const (.string ⟨#[98, 114, 101, 97, 107]⟩)), none, false⟩,
      ⟨some 17, .mov (.tmp 18), none, false⟩] [0, 2, 3, 16, 17])
    (.cond (.tmp 17)
    .skip
    (.seq (.ops [
        ⟨some 19, .bin .eql (.tmp 16) (.const (.string ⟨#[99, 111, 110, 116, 105, 110, 117, 101]⟩)), none, false⟩,
        ⟨some 17, .mov (.tmp 19), none, false⟩] [0, 2, 3, 16, 17])
      (.cond (.tmp 17)
      .skip
      (.ops [
          ⟨some 20, .bin .eql (.tmp 16) (.const (.string ⟨#[110, 101, 120, 116]⟩)), none, false⟩,
          ⟨some 17, .mov (.tmp 20), none, false⟩] [0, 2, 3, 16, 17])))))
    (.cond (.tmp 17)
    (.seq (.ops [
        ⟨some 21, .mov (.tmp 0), none, false⟩,
        ⟨some 22, .call 31 [(.tmp 21)], none, false⟩] [2, 3])
      (.seq (.ops [
        ⟨some 23, .fieldL 1 (.tmp 3), none, false⟩,
        ⟨some 24, .loadL false 1 (.tmp 23), none, false⟩,
        ⟨some 25, .fieldL 2 (.tmp 3), none, false⟩,
        ⟨some 26, .loadL false 1 (.tmp 25), none, false⟩,
        ⟨some 27, .build [.str [], .str [], .int .i64 0, .nilSlice] [(0, 1, (.tmp 24)), (2, 1, (.tmp 26))], none, false⟩,
        ⟨none, .storeL 4 (.tmp 2) (.tmp 27), none, false⟩] [2])
      .ret))
    (.seq (.seq (.ops [
        ⟨some 29, .bin .eql (.tmp 16) (.const (.string ⟨#[101, 120, 105, 116]⟩)), none, false⟩,
        ⟨some 28, .mov (.tmp 29), none, false⟩] [0, 2, 3, 16, 28])
      (.cond (.tmp 28)
      .skip
      (.ops [
          ⟨some 30, .bin .eql (.tmp 16) (.const (.string ⟨#[114, 101, 116, 117, 114, 110]⟩)), none, false⟩,
          ⟨some 28, .mov (.tmp 30), none, false⟩] [0, 2, 3, 16, 28])))
      (.cond (.tmp 28)
      (.seq (.ops [
          ⟨some 31, .mov (.tmp 0), none, false⟩,
          ⟨some 32, .call 31 [(.tmp 31)], none, false⟩] [0, 2, 3])
        (.seq (.ops [
          ⟨some 33, .fieldL 1 (.tmp 3), none, false⟩,
          ⟨some 34, .loadL false 1 (.tmp 33), none, false⟩,
          ⟨some 35, .fieldL 2 (.tmp 3), none, false⟩,
          ⟨some 36, .loadL false 1 (.tmp 35), none, false⟩,
          ⟨some 37, .build [.str [], .str [], .int .i64 0, .nilSlice] [(0, 1, (.tmp 34)), (2, 1, (.tmp 36))], none, false⟩,
          ⟨some 4, .allocL 0 [.str [], .str [], .int .i64 0, .nilSlice], none, false⟩,
          ⟨none, .storeL 4 (.tmp 4) (.tmp 37), none, false⟩] [0, 2, 4])
        (.seq (.seq (.ops [
          ⟨some 38, .mov (.tmp 0), none, false⟩,
          ⟨some 39, .call 135 [(.tmp 38)], none, false⟩,
          ⟨some 40, .un .not (.tmp 39), none, false⟩] [0, 2, 4, 40])
        (.cond (.tmp 40)
        (.ops [
            ⟨some 41, .mov (.tmp 0), none, false⟩,
            ⟨some 42, .call 55 [(.tmp 41)], none, false⟩,
            ⟨some 43, .buildSlice true 25 4 1 [.str [], .str [], .int .i64 0, .nilSlice] [(0, (.tmp 42))], none, false⟩,
            ⟨some 44, .fieldL 3 (.tmp 4), none, false⟩,
            ⟨none, .storeL 1 (.tmp 44) (.tmp 43), none, false⟩] [2, 4])
        .skip))
        (.seq (.ops [
          ⟨some 45, .loadL true 4 (.tmp 4), none, false⟩,
          ⟨none, .storeL 4 (.tmp 2) (.tmp 45), none, false⟩] [2])
        .ret))))
      (.seq (.ops [
          ⟨some 47, .bin .eql (.tmp 16) (.const (.string ⟨#[100, 101, 108, 101, 116, 101]⟩)), none, false⟩,
          ⟨some 46, .mov (.tmp 47), none, false⟩] [0, 2, 3, 16, 46])
        (.cond (.tmp 46)
        (.seq (.ops [
            ⟨some 48, .mov (.tmp 0), none, false⟩,
            ⟨some 49, .call 31 [(.tmp 48)], none, false⟩] [0, 2])
          (.seq (.ops [
            ⟨some 50, .mov (.tmp 0), none, false⟩,
            ⟨some 51, .buildSlice true 3 1 1 [.int .i64 0] [(0, (.const (.int .i64 5)))], none, false⟩,
            ⟨some 52, .call 52 [(.tmp 50), (.tmp 51)], none, false⟩,
            ⟨some 5, .allocL 0 [.int .i64 0, .str [], .int .i64 0], none, false⟩,
            ⟨none, .storeL 3 (.tmp 5) (.tmp 52), none, false⟩] [0, 2, 5])
          (.seq (.seq (.ops [
            ⟨some 53, .mov (.tmp 0), none, false⟩,
            ⟨some 54, .call 49 [(.tmp 53), (.const (.string ⟨#[91]⟩))], none, false⟩] [0, 2, 5, 54])
          (.cond (.tmp 54)
          (.seq (.opsD [
              (⟨some 55, .loadL true 3 (.tmp 5), none, false⟩, []),
              (⟨some 56, .mov (.tmp 0), none, false⟩, []),
              (⟨some 57, .call 114 [(.tmp 56), (.const (.string ⟨#[93]⟩))], none, false⟩, []),
              (⟨some 58, .buildSlice true 25 4 1 [.str [], .str [], .int .i64 0, .nilSlice] [(0, (.tmp 57))], none, false⟩, []),
              (⟨some 59, .call 51 [(.const (.string ⟨#[105, 110, 100, 101, 120]⟩)), (.tmp 55), (.tmp 58)], none, false⟩, []),
              (⟨some 60, .buildSlice true 25 4 1 [.str [], .str [], .int .i64 0, .nilSlice] [(0, (.tmp 59))], none, false⟩, []),
              (⟨some 61, .call 28 [(.const (.string ⟨#[100, 101, 108, 101, 116, 101]⟩)), (.tmp 60)], none, false⟩, []),
              (⟨none, .storeL 4 (.tmp 2) (.tmp 61), none, false⟩, [])] [2])
            .ret)
          .skip))
          (.seq (.ops [
            ⟨some 62, .loadL true 3 (.tmp 5), none, false⟩,
            ⟨some 63, .call 51 [(.const (.string ⟨#[110, 97, 109, 101]⟩)), (.tmp 62), (.const (.slice none 0 0))], none, false⟩,
            ⟨some 64, .buildSlice true 25 4 1 [.str [], .str [], .int .i64 0, .nilSlice] [(0, (.tmp 63))], none, false⟩,
            ⟨some 65, .call 28 [(.const (.string ⟨#[100, 101, 108, 101, 116, 101]⟩)), (.tmp 64)], none, false⟩,
            ⟨none, .storeL 4 (.tmp 2) (.tmp 65), none, false⟩] [2])
          .ret))))
        (.seq (.seq (.ops [
            ⟨some 67, .bin .eql (.tmp 16) (.const (.string ⟨#[112, 114, 105, 110, 116]⟩)), none, false⟩,
            ⟨some 66, .mov (.tmp 67), none, false⟩] [0, 2, 3, 16, 66])
          (.cond (.tmp 66)
          .skip
          (.ops [
              ⟨some 68, .bin .eql (.tmp 16) (.const (.string ⟨#[112, 114, 105, 110, 116, 102]⟩)), none, false⟩,
              ⟨some 66, .mov (.tmp 68), none, false⟩] [0, 2, 3, 66])))
          (.cond (.tmp 66)
          (.seq (.ops [
              ⟨some 69, .mov (.tmp 0), none, false⟩,
              ⟨some 70, .call 31 [(.tmp 69)], none, false⟩] [0, 2, 3])
            (.seq (.ops [
              ⟨some 71, .mov (.tmp 0), none, false⟩,
              ⟨some 72, .fieldL 1 (.tmp 3), none, false⟩,
              ⟨some 73, .loadL false 1 (.tmp 72), none, false⟩,
              ⟨some 74, .call 136 [(.tmp 71), (.tmp 73)], none, false⟩,
              ⟨none, .storeL 4 (.tmp 2) (.tmp 74), none, false⟩] [2])
            .ret))
          .skip))))))))))
  (.seq (.ops [
    ⟨some 75, .mov (.tmp 0), none, false⟩,
    ⟨some 76, .call 56 [(.tmp 75)], none, false⟩] [2])
  (.seq (.ops [
    ⟨some 77, .build [.str [], .str [], .int .i64 0, .nilSlice] [], none, false⟩,
    ⟨none, .storeL 4 (.tmp 2) (.tmp 77), none, false⟩] [2])
  .ret))))))⟩
/-- (*scribe/parse.parser).end -/
def af118 : AFunc := ⟨1, [],
  (.block 0
  (.seq (.seq (.ops [
      ⟨some 5, .mov (.tmp 0), none, false⟩,
      ⟨some 6, .call 49 [(.tmp 5), (.const (.string ⟨#[59]⟩))], none, false⟩,
      ⟨some 4, .mov (.tmp 6), none, false⟩] [0, 4])
    (.cond (.tmp 4)
    .skip
    (.ops [
        ⟨some 7, .mov (.tmp 0), none, false⟩,
        ⟨some 8, .buildSlice true 9 1 1 [.str []] [(0, (.const (.string ⟨#[125]⟩)))], none, false⟩,
        ⟨some 9, .call 29 [(.tmp 7), (.tmp 8)], none, false⟩,
        ⟨some 4, .mov (.tmp 9), none, false⟩] [0, 4])))
    (.cond (.tmp 4)
    .skip
    (.seq (.ops [
        ⟨some 11, .mov (.tmp 0), none, false⟩,
        ⟨some 12, .call 30 [(.tmp 11)], none, false⟩,
        ⟨some 13, .field false 1 0 (.tmp 12), none, false⟩,
        ⟨some 14, .bin .eql (.tmp 13) (.const (.int .i64 1)), none, false⟩,
        ⟨some 10, .mov (.tmp 14), none, false⟩] [0, 10])
      (.cond (.tmp 10)
      (.ops [
          ⟨some 15, .mov (.tmp 0), none, false⟩,
          ⟨some 16, .call 31 [(.tmp 15)], none, false⟩] [])
      (.ops [
          ⟨some 2, .mov (.tmp 0), none, false⟩,
          ⟨some 3, .call 56 [(.tmp 2)], none, false⟩] []))))))⟩
/-- slices.Index[[]int,int] -/
def af119 : AFunc := ⟨2, [.tmp 4],
  (.seq (.ops [
    ⟨some 4, .mov (.const (.int .i64 0)), none, false⟩] [0, 1])
  (.seq (.seq (.ops [
    ⟨some 6, .mov (.tmp 0), none, false⟩,
    ⟨some 7, .len .slice (.tmp 6), none, false⟩,
    ⟨some 8, .mov (.const (.int .i64 0)), none, false⟩] [0, 1, 7, 8])
  (.block 0
  (.loop [0, 1, 7, 8]
    (.seq (.ops [
        ⟨some 9, .bin .lss (.tmp 8) (.tmp 7), none, false⟩] [0, 1, 7, 8, 9])
      (.seq (.cond (.tmp 9)
      .skip
      (.exit 0))
      (.seq (.block 1
      (.seq (.ops [
          ⟨some 10, .mov (.tmp 8), none, false⟩,
          ⟨some 5, .mov (.tmp 10), none, false⟩] [0, 1, 5, 7, 8])
        (.seq (.ops [
          ⟨some 11, .mov (.tmp 1), none, false⟩,
          ⟨some 12, .mov (.tmp 0), none, false⟩,
          ⟨some 13, .mov (.tmp 5), none, false⟩,
          ⟨some 14, .indexAddr 1 (.tmp 12) (.tmp 13), none, false⟩,
          ⟨some 15, .load false 1 (.tmp 14), none, false⟩,
          ⟨some 16, .bin .eql (.tmp 11) (.tmp 15), none, false⟩] [0, 1, 5, 7, 8, 16])
        (.cond (.tmp 16)
        (.seq (.ops [
            ⟨some 17, .mov (.tmp 5), none, false⟩,
            ⟨some 4, .mov (.tmp 17), none, false⟩] [4])
          .ret)
        .skip))))
      (.ops [
        ⟨some 18, .bin .add (.tmp 8) (.const (.int .i64 1)), none, false⟩,
        ⟨some 8, .mov (.tmp 18), none, false⟩] [0, 1, 7, 8])))))))
  (.seq (.ops [
    ⟨some 4, .mov (.const (.int .i64 (-1))), none, false⟩] [4])
  .ret)))⟩
/-- (*scribe/parse.parser).chain -/
def af120 : AFunc := ⟨4, [.cellL true 4 8],
  (.seq (.ops [
    ⟨some 8, .allocL 0 [.str [], .str [], .int .i64 0, .nilSlice], none, false⟩] [0, 1, 2, 3, 8])
  (.seq (.ops [
    ⟨some 12, .mov (.tmp 1), none, false⟩,
    ⟨some 13, .callv (.tmp 12) [], none, false⟩,
    ⟨some 9, .allocL 0 [.str [], .str [], .int .i64 0, .nilSlice], none, false⟩,
    ⟨none, .storeL 4 (.tmp 9) (.tmp 13), none, false⟩] [0, 1, 2, 3, 8, 9])
  (.block 0
  (.loop [0, 1, 2, 3, 8, 9]
    (.block 1
      (.seq (.ops [
          ⟨some 14, .mov (.tmp 0), none, false⟩,
          ⟨some 15, .call 30 [(.tmp 14)], none, false⟩,
          ⟨some 10, .allocL 0 [.int .i64 0, .str [], .int .i64 0], none, false⟩,
          ⟨none, .storeL 3 (.tmp 10) (.tmp 15), none, false⟩] [0, 1, 2, 3, 8, 9, 10])
        (.seq (.ops [
          ⟨some 16, .mov (.tmp 3), none, false⟩,
          ⟨some 17, .fieldL 1 (.tmp 10), none, false⟩,
          ⟨some 18, .loadL false 1 (.tmp 17), none, false⟩,
          ⟨some 19, .lookup (.cell .str) (.str []) False (.tmp 16) (.tmp 18), none, false⟩,
          ⟨some 11, .mov (.tmp 19), none, false⟩] [0, 1, 2, 3, 8, 9, 10, 11])
        (.seq (.seq (.ops [
          ⟨some 20, .fieldL 0 (.tmp 10), none, false⟩,
          ⟨some 21, .loadL false 1 (.tmp 20), none, false⟩,
          ⟨some 22, .bin .neq (.tmp 21) (.const (.int .i64 8)), none, false⟩,
          ⟨some 23, .mov (.tmp 22), none, false⟩,
          ⟨some 24, .mov (.tmp 11), some (23, false), false⟩,
          ⟨some 25, .bin .eql (.tmp 24) (.const (.string ⟨#[]⟩)), some (23, false), false⟩,
          ⟨some 26, .pick (.tmp 23) (.const (.bool true)) (.tmp 25), none, false⟩] [0, 1, 2, 3, 8, 9, 11, 26])
        (.cond (.tmp 26)
        (.seq (.ops [
            ⟨some 27, .loadL true 4 (.tmp 9), none, false⟩,
            ⟨none, .storeL 4 (.tmp 8) (.tmp 27), none, false⟩] [8])
          .ret)
        .skip))
        (.seq (.ops [
          ⟨some 28, .mov (.tmp 0), none, false⟩,
          ⟨some 29, .call 31 [(.tmp 28)], none, false⟩] [0, 1, 2, 3, 8, 9, 11])
        (.seq (.seq (.ops [
          ⟨some 30, .mov (.tmp 2), none, false⟩] [0, 1, 2, 3, 8, 9, 11, 30])
        (.cond (.tmp 30)
        (.ops [
            ⟨some 31, .mov (.tmp 0), none, false⟩,
            ⟨some 32, .call 54 [(.tmp 31)], none, false⟩] [0, 1, 2, 3, 8, 9, 11])
        .skip))
        (.opsD [
          (⟨some 33, .mov (.tmp 11), none, false⟩, []),
          (⟨some 34, .loadL true 4 (.tmp 9), none, false⟩, []),
          (⟨some 35, .mov (.tmp 1), none, false⟩, []),
          (⟨some 36, .callv (.tmp 35) [], none, false⟩, []),
          (⟨some 37, .buildSlice true 25 4 2 [.str [], .str [], .int .i64 0, .nilSlice] [(0, (.tmp 34)), (1, (.tmp 36))], none, false⟩, []),
          (⟨some 38, .call 28 [(.tmp 33), (.tmp 37)], none, false⟩, []),
          (⟨none, .storeL 4 (.tmp 9) (.tmp 38), none, false⟩, [])] [0, 1, 2, 3, 8, 9])))))))))))⟩
/-- (*scribe/parse.parser).and -/
def af121 : AFunc := ⟨1, [.cellL true 4 2],
  (.seq (.ops [
    ⟨some 2, .allocL 0 [.str [], .str [], .int .i64 0, .nilSlice], none, false⟩] [0, 2])
  (.seq (.ops [
    ⟨some 3, .mov (.tmp 0), none, false⟩,
    ⟨some 4, .mov (.tmp 0), none, false⟩,
    ⟨some 5, .clos 137 [(.tmp 4)] [], none, false⟩,
    ⟨some 6, .makeMap, none, false⟩,
    ⟨none, .mapUpdate (.cell .str) (.tmp 6) (.const (.string ⟨#[38, 38]⟩)) (.const (.string ⟨#[97, 110, 100]⟩)), none, false⟩,
    ⟨some 7, .mov (.tmp 6), none, false⟩,
    ⟨some 8, .call 120 [(.tmp 3), (.tmp 5), (.const (.bool true)), (.tmp 7)], none, false⟩,
    ⟨none, .storeL 4 (.tmp 2) (.tmp 8), none, false⟩] [2])
  .ret))⟩
/-- scribe/num.clamp -/
def af122 : AFunc := ⟨3, [.tmp 6],
  (.seq (.ops [
    ⟨some 6, .mov (.const (.int .i64 0)), none, false⟩] [0, 1, 2])
  (.seq (.ops [
    ⟨some 7, .mov (.const (.int .i64 4611686018427387903)), none, false⟩] [0, 1, 2, 7])
  (.seq (.seq (.ops [
    ⟨some 8, .mov (.tmp 1), none, false⟩,
    ⟨some 9, .bin .eql (.tmp 8) (.const (.int .u64 0)), none, false⟩,
    ⟨some 10, .mov (.tmp 9), none, false⟩,
    ⟨some 11, .mov (.tmp 2), some (10, true), false⟩,
    ⟨some 12, .bin .lss (.tmp 11) (.const (.int .u64 4611686018427387903)), some (10, true), false⟩,
    ⟨some 13, .pick (.tmp 10) (.tmp 12) (.const (.bool false)), none, false⟩] [0, 2, 7, 13])
  (.cond (.tmp 13)
  (.ops [
      ⟨some 14, .mov (.tmp 2), none, false⟩,
      ⟨some 15, .convInt .i64 (.tmp 14), none, false⟩,
      ⟨some 7, .mov (.tmp 15), none, false⟩] [0, 7])
  .skip))
  (.seq (.seq (.ops [
    ⟨some 16, .mov (.tmp 0), none, false⟩] [7, 16])
  (.cond (.tmp 16)
  (.seq (.ops [
      ⟨some 17, .mov (.tmp 7), none, false⟩,
      ⟨some 18, .un .neg (.tmp 17), none, false⟩,
      ⟨some 6, .mov (.tmp 18), none, false⟩] [6])
    .ret)
  .skip))
  (.seq (.ops [
    ⟨some 19, .mov (.tmp 7), none, false⟩,
    ⟨some 6, .mov (.tmp 19), none, false⟩] [6])
  .ret)))))⟩
/-- (*scribe/code.compiler).replace -/
def af123 : AFunc := ⟨2, [],
  (.seq (.ops [
    ⟨some 2, .boxH 111 1 (.tmp 0), none, false⟩,
    ⟨some 3, .boxH 25 4 (.tmp 1), none, false⟩] [2, 3])
  (.seq (.ops [
    ⟨some 4, .allocH 3 [.int .i64 0], none, false⟩,
    ⟨none, .store 1 (.tmp 4) (.const (.int .i64 0)), none, false⟩] [2, 3, 4])
  (.seq (.seq (.ops [
    ⟨some 6, .fieldAddr 1 (.tmp 3), none, false⟩,
    ⟨some 7, .load false 1 (.tmp 6), none, false⟩,
    ⟨some 8, .bin .eql (.tmp 7) (.const (.string ⟨#[103, 115, 117, 98]⟩)), none, false⟩] [2, 3, 4, 8])
  (.cond (.tmp 8)
  (.ops [
      ⟨none, .store 1 (.tmp 4) (.const (.int .i64 1)), none, false⟩] [2, 3, 4])
  .skip))
  (.seq (.ops [
    ⟨some 9, .fieldAddr 3 (.tmp 3), none, false⟩,
    ⟨some 10, .load false 1 (.tmp 9), none, false⟩,
    ⟨some 11, .indexAddr 4 (.tmp 10) (.const (.int .i64 2)), none, false⟩,
    ⟨some 12, .load true 4 (.tmp 11), none, false⟩,
    ⟨some 5, .allocH 25 [.str [], .str [], .int .i64 0, .nilSlice], none, false⟩,
    ⟨none, .store 4 (.tmp 5) (.tmp 12), none, false⟩] [2, 3, 4, 5])
  (.seq (.ops [
    ⟨some 13, .load false 1 (.tmp 2), none, false⟩,
    ⟨some 14, .load true 4 (.tmp 5), none, false⟩,
    ⟨some 15, .clos 138 [] [(.tmp 2), (.tmp 5), (.tmp 3), (.tmp 4)], none, false⟩,
    ⟨some 16, .call 98 [(.tmp 13), (.tmp 14), (.const (.int .i64 0)), (.tmp 15)], none, false⟩] [2])
  (.seq (.ops [
    ⟨some 17, .load false 1 (.tmp 2), none, false⟩,
    ⟨some 18, .call 42 [(.tmp 17), (.const (.int .i64 18)), (.const (.int .i64 0)), (.const (.int .i64 0))], none, false⟩] [2])
  (.ops [
    ⟨some 19, .load false 1 (.tmp 2), none, false⟩,
    ⟨some 20, .call 42 [(.tmp 19), (.const (.int .i64 26)), (.const (.int .i64 0)), (.const (.int .i64 0))], none, false⟩] [])))))))⟩
/-- (*scribe/code.checker).is -/
def af124 : AFunc := ⟨5, [.tmp 10],
  (.seq (.ops [
    ⟨some 10, .mov (.const (.bool false)), none, false⟩] [0, 1, 2, 3, 4])
  (.seq (.ops [
    ⟨some 12, .mov (.tmp 0), none, false⟩,
    ⟨some 13, .nilCheck (.tmp 12), none, false⟩,
    ⟨some 14, .fieldAddr 0 (.tmp 13), none, false⟩,
    ⟨some 15, .load false 1 (.tmp 14), none, false⟩,
    ⟨some 16, .nilCheck (.tmp 15), none, false⟩,
    ⟨some 17, .fieldAddr 5 (.tmp 16), none, false⟩,
    ⟨some 18, .load false 1 (.tmp 17), none, false⟩,
    ⟨some 11, .mov (.tmp 18), none, false⟩] [0, 1, 2, 3, 4, 11])
  (.seq (.seq (.ops [
    ⟨some 19, .mov (.tmp 3), none, false⟩,
    ⟨some 20, .bin .eql (.tmp 19) (.const (.int .i64 1)), none, false⟩,
    ⟨some 21, .mov (.tmp 20), none, false⟩,
    ⟨some 22, .mov (.tmp 1), some (21, true), false⟩,
    ⟨some 23, .bin .gtr (.tmp 22) (.const (.int .i64 2)), some (21, true), false⟩,
    ⟨some 24, .pick (.tmp 21) (.tmp 23) (.const (.bool false)), none, false⟩] [0, 1, 2, 3, 4, 11, 24])
  (.cond (.tmp 24)
  (.ops [
      ⟨some 25, .mov (.tmp 0), none, false⟩,
      ⟨some 26, .nilCheck (.tmp 25), none, false⟩,
      ⟨some 27, .fieldAddr 0 (.tmp 26), none, false⟩,
      ⟨some 28, .load false 1 (.tmp 27), none, false⟩,
      ⟨some 29, .nilCheck (.tmp 28), none, false⟩,
      ⟨some 30, .fieldAddr 3 (.tmp 29), none, false⟩,
      ⟨some 31, .load false 1 (.tmp 30), none, false⟩,
      ⟨some 32, .mov (.tmp 1), none, false⟩,
      ⟨some 33, .bin .sub (.tmp 32) (.const (.int .i64 3)), none, false⟩,
      ⟨some 34, .indexAddr 2 (.tmp 31) (.tmp 33), none, false⟩,
      ⟨some 35, .fieldAddr 1 (.tmp 34), none, false⟩,
      ⟨some 36, .load false 1 (.tmp 35), none, false⟩,
      ⟨some 11, .mov (.tmp 36), none, false⟩] [2, 4, 11])
  (.seq (.ops [
      ⟨some 37, .mov (.tmp 3), none, false⟩,
      ⟨some 38, .bin .neq (.tmp 37) (.const (.int .i64 0)), none, false⟩] [2, 4, 11, 38])
    (.cond (.tmp 38)
    (.seq (.ops [
        ⟨some 10, .mov (.const (.bool false)), none, false⟩] [10])
      .ret)
    .skip))))
  (.seq (.ops [
    ⟨some 39, .mov (.tmp 2), none, false⟩,
    ⟨some 40, .bin .geq (.tmp 39) (.const (.int .i64 0)), none, false⟩,
    ⟨some 41, .mov (.tmp 40), none, false⟩,
    ⟨some 42, .mov (.tmp 2), some (41, true), false⟩,
    ⟨some 43, .mov (.tmp 11), some (41, true), false⟩,
    ⟨some 44, .len .slice (.tmp 43), some (41, true), false⟩,
    ⟨some 45, .bin .lss (.tmp 42) (.tmp 44), some (41, true), false⟩,
    ⟨some 46, .pick (.tmp 41) (.tmp 45) (.const (.bool false)), none, false⟩,
    ⟨some 47, .mov (.tmp 46), none, false⟩,
    ⟨some 48, .mov (.tmp 11), some (47, true), false⟩,
    ⟨some 49, .mov (.tmp 2), some (47, true), false⟩,
    ⟨some 50, .indexAddr 1 (.tmp 48) (.tmp 49), some (47, true), false⟩,
    ⟨some 51, .load false 1 (.tmp 50), some (47, true), false⟩,
    ⟨some 52, .mov (.tmp 4), some (47, true), false⟩,
    ⟨some 53, .binB .eql (.tmp 51) (.tmp 52), some (47, true), false⟩,
    ⟨some 54, .pick (.tmp 47) (.tmp 53) (.const (.bool false)), none, false⟩,
    ⟨some 10, .mov (.tmp 54), none, false⟩] [10])
  .ret))))⟩
/-- (*scribe/code.checker).many -/
def af125 : AFunc := ⟨2, [.tmp 4, .tmp 5, .tmp 6],
  (.seq (.ops [
    ⟨some 3, .boxL 0 3 (.tmp 1), none, false⟩,
    ⟨some 4, .mov (.const (.string ⟨#[]⟩)), none, false⟩,
    ⟨some 5, .mov (.const (.string ⟨#[]⟩)), none, false⟩,
    ⟨some 6, .mov (.const (.bool false)), none, false⟩] [0, 3])
  (.seq (.ops [
    ⟨some 7, .mov (.func 139), none, false⟩] [0, 3, 7])
  (.seq (.seq (.ops [
    ⟨some 17, .fieldL 0 (.tmp 3), none, false⟩,
    ⟨some 18, .loadL false 1 (.tmp 17), none, false⟩] [0, 3, 7, 18])
  (.block 0
  (.seq (.ops [
      ⟨some 20, .bin .eql (.tmp 18) (.const (.int .i64 21)), none, false⟩,
      ⟨some 19, .mov (.tmp 20), none, false⟩] [0, 3, 7, 18, 19])
    (.cond (.tmp 19)
    (.seq (.seq (.opsD [
        (⟨some 21, .fieldL 1 (.tmp 3), none, false⟩, []),
        (⟨some 22, .loadL false 1 (.tmp 21), none, false⟩, []),
        (⟨some 23, .bin .lss (.tmp 22) (.const (.int .i64 0)), none, false⟩, []),
        (⟨some 24, .mov (.tmp 23), none, false⟩, []),
        (⟨some 25, .fieldL 1 (.tmp 3), some (24, false), false⟩, []),
        (⟨some 26, .loadL false 1 (.tmp 25), some (24, false), false⟩, []),
        (⟨some 27, .mov (.tmp 0), some (24, false), false⟩, []),
        (⟨some 28, .nilCheck (.tmp 27), some (24, false), false⟩, []),
        (⟨some 29, .fieldAddr 0 (.tmp 28), some (24, false), false⟩, []),
        (⟨some 30, .load false 1 (.tmp 29), some (24, false), false⟩, []),
        (⟨some 31, .nilCheck (.tmp 30), some (24, false), false⟩, []),
        (⟨some 32, .fieldAddr 3 (.tmp 31), some (24, false), false⟩, []),
        (⟨some 33, .load false 1 (.tmp 32), some (24, false), false⟩, []),
        (⟨some 34, .len .slice (.tmp 33), some (24, false), false⟩, []),
        (⟨some 35, .bin .geq (.tmp 26) (.tmp 34), some (24, false), false⟩, []),
        (⟨some 36, .pick (.tmp 24) (.const (.bool true)) (.tmp 35), none, false⟩, []),
        (⟨some 37, .mov (.tmp 36), none, false⟩, []),
        (⟨some 38, .fieldL 2 (.tmp 3), some (37, false), false⟩, []),
        (⟨some 39, .loadL false 1 (.tmp 38), some (37, false), false⟩, []),
        (⟨some 40, .bin .lss (.tmp 39) (.const (.int .i64 0)), some (37, false), false⟩, []),
        (⟨some 41, .pick (.tmp 37) (.const (.bool true)) (.tmp 40), none, false⟩, []),
        (⟨some 42, .mov (.tmp 41), none, false⟩, []),
        (⟨some 43, .fieldL 2 (.tmp 3), some (42, false), false⟩, []),
        (⟨some 44, .loadL false 1 (.tmp 43), some (42, false), false⟩, []),
        (⟨some 45, .mov (.tmp 0), some (42, false), false⟩, []),
        (⟨some 46, .nilCheck (.tmp 45), some (42, false), false⟩, []),
        (⟨some 47, .fieldAddr 0 (.tmp 46), some (42, false), false⟩, []),
        (⟨some 48, .load false 1 (.tmp 47), some (42, false), false⟩, []),
        (⟨some 49, .nilCheck (.tmp 48), some (42, false), false⟩, []),
        (⟨some 50, .fieldAddr 3 (.tmp 49), some (42, false), false⟩, []),
        (⟨some 51, .load false 1 (.tmp 50), some (42, false), false⟩, []),
        (⟨some 52, .fieldL 1 (.tmp 3), some (42, false), false⟩, []),
        (⟨some 53, .loadL false 1 (.tmp 52), some (42, false), false⟩, []),
        (⟨some 54, .indexAddr 2 (.tmp 51) (.tmp 53), some (42, false), false⟩, []),
        (⟨some 55, .fieldAddr 1 (.tmp 54), some (42, false), false⟩, []),
        (⟨some 56, .load false 1 (.tmp 55), some (42, false), false⟩, []),
        (⟨some 57, .len .slice (.tmp 56), some (42, false), false⟩, []),
        (⟨some 58, .bin .gtr (.tmp 44) (.tmp 57), some (42, false), false⟩, []),
        (⟨some 59, .pick (.tmp 42) (.const (.bool true)) (.tmp 58), none, false⟩, [])] [0, 3, 59])
      (.cond (.tmp 59)
      (.seq (.ops [
          ⟨some 4, .mov (.const (.string ⟨#[]⟩)), none, false⟩,
          ⟨some 5, .mov (.const (.string ⟨#[]⟩)), none, false⟩,
          ⟨some 6, .mov (.const (.bool false)), none, false⟩] [4, 5, 6])
        .ret)
      .skip))
      (.seq (.ops [
        ⟨some 8, .mov (.const (.string ⟨#[]⟩)), none, false⟩] [0, 3, 8])
      (.seq (.seq (.opsD [
        (⟨some 60, .mov (.tmp 0), none, false⟩, []),
        (⟨some 61, .nilCheck (.tmp 60), none, false⟩, []),
        (⟨some 62, .fieldAddr 0 (.tmp 61), none, false⟩, []),
        (⟨some 63, .load false 1 (.tmp 62), none, false⟩, []),
        (⟨some 64, .nilCheck (.tmp 63), none, false⟩, []),
        (⟨some 65, .fieldAddr 3 (.tmp 64), none, false⟩, []),
        (⟨some 66, .load false 1 (.tmp 65), none, false⟩, []),
        (⟨some 67, .fieldL 1 (.tmp 3), none, false⟩, []),
        (⟨some 68, .loadL false 1 (.tmp 67), none, false⟩, []),
        (⟨some 69, .indexAddr 2 (.tmp 66) (.tmp 68), none, false⟩, []),
        (⟨some 70, .fieldAddr 1 (.tmp 69), none, false⟩, []),
        (⟨some 71, .load false 1 (.tmp 70), none, false⟩, []),
        (⟨some 72, .fieldL 2 (.tmp 3), none, false⟩, []),
        (⟨some 73, .loadL false 1 (.tmp 72), none, false⟩, []),
        (⟨some 74, .slice 1 (.tmp 71) none (some (.tmp 73)), none, false⟩, []),
        (⟨some 75, .len .slice (.tmp 74), none, false⟩, []),
        (⟨some 76, .mov (.const (.int .i64 0)), none, false⟩, [])] [8, 74, 75, 76])
      (.block 1
      (.loop [8, 74, 75, 76]
        (.seq (.ops [
            ⟨some 77, .bin .lss (.tmp 76) (.tmp 75), none, false⟩] [8, 74, 75, 76, 77])
          (.seq (.cond (.tmp 77)
          .skip
          (.exit 1))
          (.seq (.block 2
          (.seq (.ops [
              ⟨some 78, .indexAddr 1 (.tmp 74) (.tmp 76), none, false⟩,
              ⟨some 79, .load false 1 (.tmp 78), none, false⟩,
              ⟨some 10, .mov (.tmp 79), none, false⟩] [8, 10, 74, 75, 76])
            (.ops [
              ⟨some 80, .mov (.tmp 8), none, false⟩,
              ⟨some 81, .makeMap, none, false⟩,
              ⟨none, .mapUpdate (.cell .bool) (.tmp 81) (.const (.bool false)) (.const (.string ⟨#[118]⟩)), none, false⟩,
              ⟨none, .mapUpdate (.cell .bool) (.tmp 81) (.const (.bool true)) (.const (.string ⟨#[97]⟩)), none, false⟩,
              ⟨some 82, .mov (.tmp 81), none, false⟩,
              ⟨some 83, .mov (.tmp 10), none, false⟩,
              ⟨some 84, .lookup (.cell .bool) (.str []) False (.tmp 82) (.tmp 83), none, false⟩,
              ⟨some 85, .bin .add (.tmp 80) (.tmp 84), none, false⟩,
              ⟨some 8, .mov (.tmp 85), none, false⟩] [8, 74, 75, 76])))
          (.ops [
            ⟨some 86, .bin .add (.tmp 76) (.const (.int .i64 1)), none, false⟩,
            ⟨some 76, .mov (.tmp 86), none, false⟩] [8, 74, 75, 76])))))))
      (.seq (.ops [
        ⟨some 87, .mov (.tmp 8), none, false⟩,
        ⟨some 4, .mov (.tmp 87), none, false⟩,
        ⟨some 5, .mov (.const (.string ⟨#[118]⟩)), none, false⟩,
        ⟨some 6, .mov (.const (.bool true)), none, false⟩] [4, 5, 6])
      .ret))))
    (.seq (.ops [
        ⟨some 89, .bin .eql (.tmp 18) (.const (.int .i64 24)), none, false⟩,
        ⟨some 88, .mov (.tmp 89), none, false⟩] [3, 7, 18, 88])
      (.cond (.tmp 88)
      (.seq (.ops [
          ⟨some 90, .makeMap, none, false⟩,
          ⟨none, .mapUpdate (.cell .str) (.tmp 90) (.const (.string ⟨#[115, 117, 98, 115, 116, 114]⟩)) (.const (.int .i64 2)), none, false⟩,
          ⟨none, .mapUpdate (.cell .str) (.tmp 90) (.const (.string ⟨#[105, 110, 100, 101, 120]⟩)) (.const (.int .i64 2)), none, false⟩,
          ⟨none, .mapUpdate (.cell .str) (.tmp 90) (.const (.string ⟨#[115, 112, 108, 105, 116]⟩)) (.const (.int .i64 2)), none, false⟩,
          ⟨none, .mapUpdate (.cell .str) (.tmp 90) (.const (.string ⟨#[109, 97, 116, 99, 104]⟩)) (.const (.int .i64 2)), none, false⟩,
          ⟨none, .mapUpdate (.cell .str) (.tmp 90) (.const (.string ⟨#[114, 97, 110, 100]⟩)) (.const (.int .i64 0)), none, false⟩,
          ⟨some 91, .mov (.tmp 90), none, false⟩,
          ⟨some 11, .mov (.tmp 91), none, false⟩] [3, 7, 11])
        (.seq (.ops [
          ⟨some 92, .makeMap, none, false⟩,
          ⟨none, .mapUpdate (.cell .str) (.tmp 92) (.const (.string ⟨#[115, 117, 98, 115, 116, 114]⟩)) (.const (.int .i64 3)), none, false⟩,
          ⟨none, .mapUpdate (.cell .str) (.tmp 92) (.const (.string ⟨#[105, 110, 100, 101, 120]⟩)) (.const (.int .i64 2)), none, false⟩,
          ⟨none, .mapUpdate (.cell .str) (.tmp 92) (.const (.string ⟨#[115, 112, 108, 105, 116]⟩)) (.const (.int .i64 4)), none, false⟩,
          ⟨none, .mapUpdate (.cell .str) (.tmp 92) (.const (.string ⟨#[109, 97, 116, 99, 104]⟩)) (.const (.int .i64 2)), none, false⟩,
          ⟨none, .mapUpdate (.cell .str) (.tmp 92) (.const (.string ⟨#[114, 97, 110, 100]⟩)) (.const (.int .i64 0)), none, false⟩,
          ⟨none, .mapUpdate (.cell .str) (.tmp 92) (.const (.string ⟨#[115, 112, 114, 105, 110, 116, 102]⟩)) (.const (.int .i64 5000)), none, false⟩,
          ⟨some 93, .mov (.tmp 92), none, false⟩,
          ⟨some 12, .mov (.tmp 93), none, false⟩] [3, 7, 11, 12])
        (.seq (.ops [
          ⟨some 94, .fieldL 1 (.tmp 3), none, false⟩,
          ⟨some 95, .loadL false 1 (.tmp 94), none, false⟩,
          ⟨some 96, .call 23 [(.tmp 95)], none, false⟩,
          ⟨some 13, .mov (.tmp 96), none, false⟩] [3, 7, 11, 12, 13])
        (.seq (.ops [
          ⟨some 98, .mov (.tmp 11), none, false⟩,
          ⟨some 99, .mov (.tmp 13), none, false⟩,
          ⟨some 100, .lookup (.cell .str) (.int .i64 0) True (.tmp 98) (.tmp 99), none, false⟩,
          ⟨some 97, .mov (.tmp 100), none, false⟩,
          ⟨some 101, .extract (.tmp 97) 0, none, false⟩,
          ⟨some 102, .extract (.tmp 97) 1, none, false⟩,
          ⟨some 14, .mov (.tmp 101), none, false⟩,
          ⟨some 15, .mov (.tmp 102), none, false⟩] [3, 7, 12, 13, 14, 15])
        (.seq (.seq (.ops [
          ⟨some 103, .mov (.tmp 15), none, false⟩,
          ⟨some 104, .un .not (.tmp 103), none, false⟩] [3, 7, 12, 13, 14, 104])
        (.cond (.tmp 104)
        (.ops [
            ⟨some 14, .mov (.const (.int .i64 1)), none, false⟩] [3, 7, 12, 13, 14])
        .skip))
        (.seq (.ops [
          ⟨some 106, .mov (.tmp 12), none, false⟩,
          ⟨some 107, .mov (.tmp 13), none, false⟩,
          ⟨some 108, .lookup (.cell .str) (.int .i64 0) True (.tmp 106) (.tmp 107), none, false⟩,
          ⟨some 105, .mov (.tmp 108), none, false⟩,
          ⟨some 109, .extract (.tmp 105) 0, none, false⟩,
          ⟨some 110, .extract (.tmp 105) 1, none, false⟩,
          ⟨some 16, .mov (.tmp 109), none, false⟩,
          ⟨some 15, .mov (.tmp 110), none, false⟩] [3, 7, 13, 14, 15, 16])
        (.seq (.seq (.ops [
          ⟨some 111, .mov (.tmp 15), none, false⟩,
          ⟨some 112, .un .not (.tmp 111), none, false⟩] [3, 7, 13, 14, 16, 112])
        (.cond (.tmp 112)
        (.ops [
            ⟨some 16, .mov (.const (.int .i64 1)), none, false⟩] [3, 7, 13, 14, 16])
        .skip))
        (.seq (.seq (.ops [
          ⟨some 113, .mov (.tmp 13), none, false⟩,
          ⟨some 114, .bin .eql (.tmp 113) (.const (.string ⟨#[115, 112, 108, 105, 116]⟩)), none, false⟩] [3, 7, 13, 14, 16, 114])
        (.cond (.tmp 114)
        (.seq (.opsD [
            (⟨some 115, .mov (.tmp 7), none, false⟩, []),
            (⟨some 116, .fieldL 2 (.tmp 3), none, false⟩, []),
            (⟨some 117, .loadL false 1 (.tmp 116), none, false⟩, []),
            (⟨some 118, .min (.tmp 117) (.const (.int .i64 3)), none, false⟩, []),
            (⟨some 119, .bin .sub (.tmp 118) (.const (.int .i64 2)), none, false⟩, []),
            (⟨some 120, .callv (.tmp 115) [(.tmp 119)], none, false⟩, []),
            (⟨some 121, .bin .add (.const (.string ⟨#[118, 97]⟩)) (.tmp 120), none, false⟩, []),
            (⟨some 122, .fieldL 2 (.tmp 3), none, false⟩, []),
            (⟨some 123, .loadL false 1 (.tmp 122), none, false⟩, []),
            (⟨some 124, .mov (.tmp 14), none, false⟩, []),
            (⟨some 125, .bin .geq (.tmp 123) (.tmp 124), none, false⟩, []),
            (⟨some 126, .mov (.tmp 125), none, false⟩, []),
            (⟨some 127, .fieldL 2 (.tmp 3), some (126, true), false⟩, []),
            (⟨some 128, .loadL false 1 (.tmp 127), some (126, true), false⟩, []),
            (⟨some 129, .mov (.tmp 16), some (126, true), false⟩, []),
            (⟨some 130, .bin .leq (.tmp 128) (.tmp 129), some (126, true), false⟩, []),
            (⟨some 131, .pick (.tmp 126) (.tmp 130) (.const (.bool false)), none, false⟩, []),
            (⟨some 4, .mov (.tmp 121), none, false⟩, []),
            (⟨some 5, .mov (.const (.string ⟨#[118]⟩)), none, false⟩, []),
            (⟨some 6, .mov (.tmp 131), none, false⟩, [])] [4, 5, 6])
          .ret)
        .skip))
        (.seq (.opsD [
          (⟨some 132, .mov (.tmp 7), none, false⟩, []),
          (⟨some 133, .fieldL 2 (.tmp 3), none, false⟩, []),
          (⟨some 134, .loadL false 1 (.tmp 133), none, false⟩, []),
          (⟨some 135, .callv (.tmp 132) [(.tmp 134)], none, false⟩, []),
          (⟨some 136, .mov (.tmp 13), none, false⟩, []),
          (⟨some 137, .bin .neq (.tmp 136) (.const (.string ⟨#[]⟩)), none, false⟩, []),
          (⟨some 138, .mov (.tmp 137), none, false⟩, []),
          (⟨some 139, .fieldL 2 (.tmp 3), some (138, true), false⟩, []),
          (⟨some 140, .loadL false 1 (.tmp 139), some (138, true), false⟩, []),
          (⟨some 141, .mov (.tmp 14), some (138, true), false⟩, []),
          (⟨some 142, .bin .geq (.tmp 140) (.tmp 141), some (138, true), false⟩, []),
          (⟨some 143, .pick (.tmp 138) (.tmp 142) (.const (.bool false)), none, false⟩, []),
          (⟨some 144, .mov (.tmp 143), none, false⟩, []),
          (⟨some 145, .fieldL 2 (.tmp 3), some (144, true), false⟩, []),
          (⟨some 146, .loadL false 1 (.tmp 145), some (144, true), false⟩, []),
          (⟨some 147, .mov (.tmp 16), some (144, true), false⟩, []),
          (⟨some 148, .bin .leq (.tmp 146) (.tmp 147), some (144, true), false⟩, []),
          (⟨some 149, .pick (.tmp 144) (.tmp 148) (.const (.bool false)), none, false⟩, []),
          (⟨some 4, .mov (.tmp 135), none, false⟩, []),
          (⟨some 5, .mov (.const (.string ⟨#[118]⟩)), none, false⟩, []),
          (⟨some 6, .mov (.tmp 149), none, false⟩, [])] [4, 5, 6])
        .ret)))))))))
      (.seq (.seq (.ops [
          ⟨some 151, .bin .eql (.tmp 18) (.const (.int .i64 27)), none, false⟩,
          ⟨some 150, .mov (.tmp 151), none, false⟩] [3, 7, 18, 150])
        (.cond (.tmp 150)
        .skip
        (.ops [
            ⟨some 152, .bin .eql (.tmp 18) (.const (.int .i64 28)), none, false⟩,
            ⟨some 150, .mov (.tmp 152), none, false⟩] [3, 7, 18, 150])))
        (.cond (.tmp 150)
        (.seq (.opsD [
            (⟨some 153, .mov (.tmp 7), none, false⟩, []),
            (⟨some 154, .fieldL 1 (.tmp 3), none, false⟩, []),
            (⟨some 155, .loadL false 1 (.tmp 154), none, false⟩, []),
            (⟨some 156, .callv (.tmp 153) [(.tmp 155)], none, false⟩, []),
            (⟨some 157, .mov (.tmp 7), none, false⟩, []),
            (⟨some 158, .fieldL 2 (.tmp 3), none, false⟩, []),
            (⟨some 159, .loadL false 1 (.tmp 158), none, false⟩, []),
            (⟨some 160, .min (.tmp 159) (.const (.int .i64 1)), none, false⟩, []),
            (⟨some 161, .callv (.tmp 157) [(.tmp 160)], none, false⟩, []),
            (⟨some 162, .bin .add (.tmp 156) (.tmp 161), none, false⟩, []),
            (⟨some 163, .fieldL 1 (.tmp 3), none, false⟩, []),
            (⟨some 164, .loadL false 1 (.tmp 163), none, false⟩, []),
            (⟨some 165, .bin .geq (.tmp 164) (.const (.int .i64 1)), none, false⟩, []),
            (⟨some 166, .mov (.tmp 165), none, false⟩, []),
            (⟨some 167, .fieldL 1 (.tmp 3), some (166, true), false⟩, []),
            (⟨some 168, .loadL false 1 (.tmp 167), some (166, true), false⟩, []),
            (⟨some 169, .bin .leq (.tmp 168) (.const (.int .i64 5000)), some (166, true), false⟩, []),
            (⟨some 170, .pick (.tmp 166) (.tmp 169) (.const (.bool false)), none, false⟩, []),
            (⟨some 171, .mov (.tmp 170), none, false⟩, []),
            (⟨some 172, .fieldL 2 (.tmp 3), some (171, true), false⟩, []),
            (⟨some 173, .loadL false 1 (.tmp 172), some (171, true), false⟩, []),
            (⟨some 174, .bin .geq (.tmp 173) (.const (.int .i64 0)), some (171, true), false⟩, []),
            (⟨some 175, .pick (.tmp 171) (.tmp 174) (.const (.bool false)), none, false⟩, []),
            (⟨some 176, .mov (.tmp 175), none, false⟩, []),
            (⟨some 177, .fieldL 2 (.tmp 3), some (176, true), false⟩, []),
            (⟨some 178, .loadL false 1 (.tmp 177), some (176, true), false⟩, []),
            (⟨some 179, .bin .leq (.tmp 178) (.const (.int .i64 2)), some (176, true), false⟩, []),
            (⟨some 180, .pick (.tmp 176) (.tmp 179) (.const (.bool false)), none, false⟩, []),
            (⟨some 4, .mov (.tmp 162), none, false⟩, []),
            (⟨some 5, .mov (.const (.string ⟨#[]⟩)), none, false⟩, []),
            (⟨some 6, .mov (.tmp 180), none, false⟩, [])] [4, 5, 6])
          .ret)
        (.seq (.ops [
            ⟨some 182, .bin .eql (.tmp 18) (.const (.int .i64 33)), none, false⟩,
            ⟨some 181, .mov (.tmp 182), none, false⟩] [3, 7, 181])
          (.cond (.tmp 181)
          (.seq (.opsD [
              (⟨some 183, .mov (.tmp 7), none, false⟩, []),
              (⟨some 184, .fieldL 1 (.tmp 3), none, false⟩, []),
              (⟨some 185, .loadL false 1 (.tmp 184), none, false⟩, []),
              (⟨some 186, .callv (.tmp 183) [(.tmp 185)], none, false⟩, []),
              (⟨some 187, .fieldL 1 (.tmp 3), none, false⟩, []),
              (⟨some 188, .loadL false 1 (.tmp 187), none, false⟩, []),
              (⟨some 189, .bin .eql (.tmp 188) (.const (.int .i64 0)), none, false⟩, []),
              (⟨some 190, .mov (.tmp 189), none, false⟩, []),
              (⟨some 191, .fieldL 1 (.tmp 3), some (190, false), false⟩, []),
              (⟨some 192, .loadL false 1 (.tmp 191), some (190, false), false⟩, []),
              (⟨some 193, .bin .eql (.tmp 192) (.const (.int .i64 1)), some (190, false), false⟩, []),
              (⟨some 194, .pick (.tmp 190) (.const (.bool true)) (.tmp 193), none, false⟩, []),
              (⟨some 4, .mov (.tmp 186), none, false⟩, []),
              (⟨some 5, .mov (.const (.string ⟨#[]⟩)), none, false⟩, []),
              (⟨some 6, .mov (.tmp 194), none, false⟩, [])] [4, 5, 6])
            .ret)
          .skip))))))))))
  (.seq (.ops [
    ⟨some 4, .mov (.const (.string ⟨#[]⟩)), none, false⟩,
    ⟨some 5, .mov (.const (.string ⟨#[]⟩)), none, false⟩,
    ⟨some 6, .mov (.const (.bool false)), none, false⟩] [4, 5, 6])
  .ret))))⟩
/-- scribe/scriberef15.half -/
def af126 : AFunc := ⟨1, [.tmp 2],
  (.seq (.ops [
    ⟨some 2, .mov (.const (.int .i64 0)), none, false⟩] [0])
  (.seq (.seq (.ops [
    ⟨some 3, .mov (.tmp 0), none, false⟩,
    ⟨some 4, .bin .lss (.tmp 3) (.const (.int .i64 0)), none, false⟩] [0, 4])
  (.cond (.tmp 4)
  (.seq (.ops [
      ⟨some 2, .mov (.const (.int .i64 (-1))), none, false⟩] [2])
    .ret)
  .skip))
  (.seq (.ops [
    ⟨some 5, .mov (.tmp 0), none, false⟩,
    ⟨some 6, .bin .quo (.tmp 5) (.const (.int .i64 2)), none, false⟩,
    ⟨some 2, .mov (.tmp 6), none, false⟩] [2])
  .ret)))⟩
/-- scribe/scriberef15.variable -/
def af127 : AFunc := ⟨5, [.tmp 10],
  (.seq (.ops [
    ⟨some 5, .boxL 0 9 (.tmp 0), none, false⟩,
    ⟨some 10, .mov (.const (.bool false)), none, false⟩] [1, 2, 3, 4, 5])
  (.seq (.ops [
    ⟨some 12, .fieldL 5 (.tmp 5), none, false⟩,
    ⟨some 13, .loadL false 1 (.tmp 12), none, false⟩,
    ⟨some 11, .mov (.tmp 13), none, false⟩] [1, 2, 3, 4, 5, 11])
  (.seq (.seq (.ops [
    ⟨some 14, .mov (.tmp 3), none, false⟩,
    ⟨some 15, .bin .eql (.tmp 14) (.const (.int .i64 1)), none, false⟩] [1, 2, 3, 4, 5, 11, 15])
  (.cond (.tmp 15)
  (.seq (.seq (.ops [
      ⟨some 16, .mov (.tmp 1), none, false⟩,
      ⟨some 17, .bin .lss (.tmp 16) (.const (.int .i64 3)), none, false⟩] [1, 2, 3, 4, 5, 17])
    (.cond (.tmp 17)
    (.seq (.ops [
        ⟨some 10, .mov (.const (.bool false)), none, false⟩] [10])
      .ret)
    .skip))
    (.ops [
      ⟨some 18, .fieldL 3 (.tmp 5), none, false⟩,
      ⟨some 19, .loadL false 1 (.tmp 18), none, false⟩,
      ⟨some 20, .mov (.tmp 1), none, false⟩,
      ⟨some 21, .bin .sub (.tmp 20) (.const (.int .i64 3)), none, false⟩,
      ⟨some 22, .indexAddr 2 (.tmp 19) (.tmp 21), none, false⟩,
      ⟨some 23, .fieldAddr 1 (.tmp 22), none, false⟩,
      ⟨some 24, .load false 1 (.tmp 23), none, false⟩,
      ⟨some 11, .mov (.tmp 24), none, false⟩] [2, 3, 4, 11]))
  .skip))
  (.seq (.ops [
    ⟨some 25, .mov (.tmp 3), none, false⟩,
    ⟨some 26, .bin .eql (.tmp 25) (.const (.int .i64 0)), none, false⟩,
    ⟨some 27, .mov (.tmp 26), none, false⟩,
    ⟨some 28, .mov (.tmp 3), some (27, false), false⟩,
    ⟨some 29, .bin .eql (.tmp 28) (.const (.int .i64 1)), some (27, false), false⟩,
    ⟨some 30, .pick (.tmp 27) (.const (.bool true)) (.tmp 29), none, false⟩,
    ⟨some 31, .mov (.tmp 30), none, false⟩,
    ⟨some 32, .mov (.tmp 2), some (31, true), false⟩,
    ⟨some 33, .bin .geq (.tmp 32) (.const (.int .i64 0)), some (31, true), false⟩,
    ⟨some 34, .pick (.tmp 31) (.tmp 33) (.const (.bool false)), none, false⟩,
    ⟨some 35, .mov (.tmp 34), none, false⟩,
    ⟨some 36, .mov (.tmp 2), some (35, true), false⟩,
    ⟨some 37, .mov (.tmp 11), some (35, true), false⟩,
    ⟨some 38, .len .slice (.tmp 37), some (35, true), false⟩,
    ⟨some 39, .bin .lss (.tmp 36) (.tmp 38), some (35, true), false⟩,
    ⟨some 40, .pick (.tmp 35) (.tmp 39) (.const (.bool false)), none, false⟩,
    ⟨some 41, .mov (.tmp 40), none, false⟩,
    ⟨some 42, .mov (.tmp 11), some (41, true), false⟩,
    ⟨some 43, .mov (.tmp 2), some (41, true), false⟩,
    ⟨some 44, .indexAddr 1 (.tmp 42) (.tmp 43), some (41, true), false⟩,
    ⟨some 45, .load false 1 (.tmp 44), some (41, true), false⟩,
    ⟨some 46, .mov (.tmp 4), some (41, true), false⟩,
    ⟨some 47, .binB .eql (.tmp 45) (.tmp 46), some (41, true), false⟩,
    ⟨some 48, .pick (.tmp 41) (.tmp 47) (.const (.bool false)), none, false⟩,
    ⟨some 10, .mov (.tmp 48), none, false⟩] [10])
  .ret))))⟩
/-- scribe/scriberef15.odd -/
def af128 : AFunc := ⟨1, [.tmp 2],
  (.seq (.ops [
    ⟨some 2, .mov (.const (.int .i64 0)), none, false⟩] [0])
  (.seq (.ops [
    ⟨some 3, .mov (.tmp 0), none, false⟩,
    ⟨some 4, .bin .rem (.tmp 3) (.const (.int .i64 2)), none, false⟩,
    ⟨some 5, .bin .add (.tmp 4) (.const (.int .i64 2)), none, false⟩,
    ⟨some 6, .bin .rem (.tmp 5) (.const (.int .i64 2)), none, false⟩,
    ⟨some 2, .mov (.tmp 6), none, false⟩] [2])
  .ret))⟩
/-- scribe/scriberef15.language -/
def af129 : AFunc := ⟨1, [.tmp 2, .tmp 3, .tmp 4],
  (.seq (.ops [
    ⟨some 1, .boxL 0 3 (.tmp 0), none, false⟩,
    ⟨some 2, .mov (.const (.string ⟨#[]⟩)), none, false⟩,
    ⟨some 3, .mov (.const (.string ⟨#[]⟩)), none, false⟩,
    ⟨some 4, .mov (.const (.bool false)), none, false⟩] [1])
  (.seq (.seq (.ops [
    ⟨some 7, .fieldL 1 (.tmp 1), none, false⟩,
    ⟨some 8, .loadL false 1 (.tmp 7), none, false⟩,
    ⟨some 9, .bin .lss (.tmp 8) (.const (.int .i64 0)), none, false⟩,
    ⟨some 10, .mov (.tmp 9), none, false⟩,
    ⟨some 11, .fieldL 1 (.tmp 1), some (10, false), false⟩,
    ⟨some 12, .loadL false 1 (.tmp 11), some (10, false), false⟩,
    ⟨some 13, .bin .gtr (.tmp 12) (.const (.int .i64 10)), some (10, false), false⟩,
    ⟨some 14, .pick (.tmp 10) (.const (.bool true)) (.tmp 13), none, false⟩,
    ⟨some 15, .mov (.tmp 14), none, false⟩,
    ⟨some 16, .fieldL 2 (.tmp 1), some (15, false), false⟩,
    ⟨some 17, .loadL false 1 (.tmp 16), some (15, false), false⟩,
    ⟨some 18, .bin .lss (.tmp 17) (.const (.int .i64 0)), some (15, false), false⟩,
    ⟨some 19, .pick (.tmp 15) (.const (.bool true)) (.tmp 18), none, false⟩,
    ⟨some 20, .mov (.tmp 19), none, false⟩,
    ⟨some 21, .fieldL 2 (.tmp 1), some (20, false), false⟩,
    ⟨some 22, .loadL false 1 (.tmp 21), some (20, false), false⟩,
    ⟨some 23, .bin .gtr (.tmp 22) (.const (.int .i64 5000)), some (20, false), false⟩,
    ⟨some 24, .pick (.tmp 20) (.const (.bool true)) (.tmp 23), none, false⟩] [1, 24])
  (.cond (.tmp 24)
  (.seq (.ops [
      ⟨some 2, .mov (.const (.string ⟨#[]⟩)), none, false⟩,
      ⟨some 3, .mov (.const (.string ⟨#[]⟩)), none, false⟩,
      ⟨some 4, .mov (.const (.bool false)), none, false⟩] [2, 3, 4])
    .ret)
  .skip))
  (.seq (.ops [
    ⟨some 5, .mov (.const (.int .i64 1)), none, false⟩,
    ⟨some 6, .mov (.const (.int .i64 1)), none, false⟩] [1, 5, 6])
  (.seq (.seq (.ops [
    ⟨some 25, .fieldL 1 (.tmp 1), none, false⟩,
    ⟨some 26, .loadL false 1 (.tmp 25), none, false⟩] [1, 5, 6, 26])
  (.block 0
  (.seq (.ops [
      ⟨some 28, .bin .eql (.tmp 26) (.const (.int .i64 1)), none, false⟩,
      ⟨some 27, .mov (.tmp 28), none, false⟩] [1, 5, 6, 26, 27])
    (.cond (.tmp 27)
    (.seq (.ops [
        ⟨some 5, .mov (.const (.int .i64 2)), none, false⟩] [1, 5])
      (.ops [
        ⟨some 6, .mov (.const (.int .i64 3)), none, false⟩] [1, 5, 6]))
    (.seq (.seq (.ops [
        ⟨some 30, .bin .eql (.tmp 26) (.const (.int .i64 2)), none, false⟩,
        ⟨some 29, .mov (.tmp 30), none, false⟩] [1, 5, 6, 26, 29])
      (.cond (.tmp 29)
      .skip
      (.ops [
          ⟨some 31, .bin .eql (.tmp 26) (.const (.int .i64 4)), none, false⟩,
          ⟨some 29, .mov (.tmp 31), none, false⟩] [1, 5, 6, 26, 29])))
      (.cond (.tmp 29)
      (.seq (.ops [
          ⟨some 5, .mov (.const (.int .i64 2)), none, false⟩] [1, 5])
        (.ops [
          ⟨some 6, .mov (.const (.int .i64 2)), none, false⟩] [1, 5, 6]))
      (.seq (.ops [
          ⟨some 33, .bin .eql (.tmp 26) (.const (.int .i64 3)), none, false⟩,
          ⟨some 32, .mov (.tmp 33), none, false⟩] [1, 5, 6, 26, 32])
        (.cond (.tmp 32)
        (.seq (.ops [
            ⟨some 5, .mov (.const (.int .i64 2)), none, false⟩] [1, 5])
          (.ops [
            ⟨some 6, .mov (.const (.int .i64 4)), none, false⟩] [1, 5, 6]))
        (.seq (.ops [
            ⟨some 35, .bin .eql (.tmp 26) (.const (.int .i64 8)), none, false⟩,
            ⟨some 34, .mov (.tmp 35), none, false⟩] [1, 5, 6, 26, 34])
          (.cond (.tmp 34)
          (.ops [
              ⟨some 6, .mov (.const (.int .i64 5000)), none, false⟩] [1, 5, 6])
          (.seq (.ops [
              ⟨some 37, .bin .eql (.tmp 26) (.const (.int .i64 9)), none, false⟩,
              ⟨some 36, .mov (.tmp 37), none, false⟩] [1, 5, 6, 36])
            (.cond (.tmp 36)
            (.seq (.ops [
                ⟨some 5, .mov (.const (.int .i64 0)), none, false⟩] [1, 5])
              (.ops [
                ⟨some 6, .mov (.const (.int .i64 0)), none, false⟩] [1, 5, 6]))
            .skip))))))))))))
  (.seq (.seq (.ops [
    ⟨some 38, .fieldL 2 (.tmp 1), none, false⟩,
    ⟨some 39, .loadL false 1 (.tmp 38), none, false⟩,
    ⟨some 40, .mov (.tmp 5), none, false⟩,
    ⟨some 41, .bin .lss (.tmp 39) (.tmp 40), none, false⟩,
    ⟨some 42, .mov (.tmp 41), none, false⟩,
    ⟨some 43, .fieldL 2 (.tmp 1), some (42, false), false⟩,
    ⟨some 44, .loadL false 1 (.tmp 43), some (42, false), false⟩,
    ⟨some 45, .mov (.tmp 6), some (42, false), false⟩,
    ⟨some 46, .bin .gtr (.tmp 44) (.tmp 45), some (42, false), false⟩,
    ⟨some 47, .pick (.tmp 42) (.const (.bool true)) (.tmp 46), none, false⟩] [1, 47])
  (.cond (.tmp 47)
  (.seq (.ops [
      ⟨some 2, .mov (.const (.string ⟨#[]⟩)), none, false⟩,
      ⟨some 3, .mov (.const (.string ⟨#[]⟩)), none, false⟩,
      ⟨some 4, .mov (.const (.bool false)), none, false⟩] [2, 3, 4])
    .ret)
  .skip))
  (.seq (.seq (.ops [
    ⟨some 48, .fieldL 1 (.tmp 1), none, false⟩,
    ⟨some 49, .loadL false 1 (.tmp 48), none, false⟩,
    ⟨some 50, .bin .eql (.tmp 49) (.const (.int .i64 3)), none, false⟩] [1, 50])
  (.cond (.tmp 50)
  (.seq (.seq (.ops [
      ⟨some 51, .fieldL 2 (.tmp 1), none, false⟩,
      ⟨some 52, .loadL false 1 (.tmp 51), none, false⟩,
      ⟨some 53, .bin .gtr (.tmp 52) (.const (.int .i64 2)), none, false⟩] [53])
    (.cond (.tmp 53)
    (.seq (.ops [
        ⟨some 2, .mov (.const (.string ⟨#[118, 97, 118]⟩)), none, false⟩,
        ⟨some 3, .mov (.const (.string ⟨#[118]⟩)), none, false⟩,
        ⟨some 4, .mov (.const (.bool true)), none, false⟩] [2, 3, 4])
      .ret)
    .skip))
    (.seq (.ops [
      ⟨some 2, .mov (.const (.string ⟨#[118, 97]⟩)), none, false⟩,
      ⟨some 3, .mov (.const (.string ⟨#[118]⟩)), none, false⟩,
      ⟨some 4, .mov (.const (.bool true)), none, false⟩] [2, 3, 4])
    .ret))
  .skip))
  (.seq (.ops [
    ⟨some 54, .fieldL 2 (.tmp 1), none, false⟩,
    ⟨some 55, .loadL false 1 (.tmp 54), none, false⟩,
    ⟨some 56, .call 130 [(.tmp 55)], none, false⟩,
    ⟨some 2, .mov (.tmp 56), none, false⟩,
    ⟨some 3, .mov (.const (.string ⟨#[118]⟩)), none, false⟩,
    ⟨some 4, .mov (.const (.bool true)), none, false⟩] [2, 3, 4])
  .ret)))))))⟩
/-- scribe/scriberef15.values -/
def af130 : AFunc := ⟨1, [.tmp 2],
  (.seq (.ops [
    ⟨some 2, .mov (.const (.string ⟨#[]⟩)), none, false⟩] [0])
  (.seq (.ops [
    ⟨some 3, .mov (.const (.string ⟨#[]⟩)), none, false⟩] [0, 3])
  (.seq (.seq (.ops [
    ⟨some 4, .mov (.const (.int .i64 0)), none, false⟩] [0, 3, 4])
  (.block 0
  (.loop [0, 3, 4]
    (.seq (.seq (.ops [
        ⟨some 5, .mov (.tmp 4), none, false⟩,
        ⟨some 6, .mov (.tmp 0), none, false⟩,
        ⟨some 7, .bin .lss (.tmp 5) (.tmp 6), none, false⟩] [0, 3, 4, 7])
      (.cond (.tmp 7)
      .skip
      (.exit 0)))
      (.seq (.block 1
      (.ops [
          ⟨some 10, .mov (.tmp 3), none, false⟩,
          ⟨some 11, .bin .add (.tmp 10) (.const (.string ⟨#[118]⟩)), none, false⟩,
          ⟨some 3, .mov (.tmp 11), none, false⟩] [0, 3, 4]))
      (.ops [
        ⟨some 8, .mov (.tmp 4), none, false⟩,
        ⟨some 9, .bin .add (.tmp 8) (.const (.int .i64 1)), none, false⟩,
        ⟨some 4, .mov (.tmp 9), none, false⟩] [0, 3, 4]))))))
  (.seq (.ops [
    ⟨some 12, .mov (.tmp 3), none, false⟩,
    ⟨some 2, .mov (.tmp 12), none, false⟩] [2])
  .ret))))⟩
/-- (*strings.Builder).copyCheck -/
def af131 : AFunc := ⟨1, [],
  (.seq (.ops [
    ⟨some 2, .mov (.tmp 0), none, false⟩,
    ⟨some 3, .nilCheck (.tmp 2), none, false⟩,
    ⟨some 4, .fieldAddr 0 (.tmp 3), none, false⟩,
    ⟨some 5, .load false 1 (.tmp 4), none, false⟩,
    ⟨some 6, .eqNil .ptr false (.tmp 5) (.const (.pointer none)), none, false⟩] [0, 6])
  (.cond (.tmp 6)
  (.ops [
      ⟨some 7, .mov (.tmp 0), none, false⟩,
      ⟨some 8, .mov (.tmp 0), none, false⟩,
      ⟨some 9, .convPtr 180 2 (.tmp 8), none, false⟩,
      ⟨some 10, .ext 140 [(.tmp 9)], none, false⟩,
      ⟨some 11, .convPtr 180 2 (.tmp 10), none, false⟩,
      ⟨some 12, .nilCheck (.tmp 7), none, false⟩,
      ⟨some 13, .fieldAddr 0 (.tmp 12), none, false⟩,
      ⟨none, .store 1 (.tmp 13) (.tmp 11), none, false⟩] [])
  (.seq (.ops [
      ⟨some 14, .mov (.tmp 0), none, false⟩,
      ⟨some 15, .nilCheck (.tmp 14), none, false⟩,
      ⟨some 16, .fieldAddr 0 (.tmp 15), none, false⟩,
      ⟨some 17, .load false 1 (.tmp 16), none, false⟩,
      ⟨some 18, .mov (.tmp 0), none, false⟩,
      ⟨some 19, .eqNil .ptr true (.tmp 17) (.tmp 18), none, false⟩] [19])
    (.cond (.tmp 19)
    .fail
    .skip))))⟩
/-- (*scribe/parse.parser).ahead -/
def af134 : AFunc := ⟨2, [.cellL true 3 4],
  (.seq (.ops [
    ⟨some 4, .allocL 0 [.int .i64 0, .str [], .int .i64 0], none, false⟩] [0, 1, 4])
  (.seq (.seq (.opsD [
    (⟨some 5, .mov (.tmp 0), none, false⟩, []),
    (⟨some 6, .nilCheck (.tmp 5), none, false⟩, []),
    (⟨some 7, .fieldAddr 4 (.tmp 6), none, false⟩, []),
    (⟨some 8, .load false 1 (.tmp 7), none, false⟩, []),
    (⟨some 9, .bin .neq (.tmp 8) (.const (.int .i64 0)), none, false⟩, []),
    (⟨some 10, .mov (.tmp 9), none, false⟩, []),
    (⟨some 11, .mov (.tmp 0), some (10, false), false⟩, []),
    (⟨some 12, .nilCheck (.tmp 11), some (10, false), false⟩, []),
    (⟨some 13, .fieldAddr 1 (.tmp 12), some (10, false), false⟩, []),
    (⟨some 14, .load false 1 (.tmp 13), some (10, false), false⟩, []),
    (⟨some 15, .mov (.tmp 1), some (10, false), false⟩, []),
    (⟨some 16, .bin .add (.tmp 14) (.tmp 15), some (10, false), false⟩, []),
    (⟨some 17, .mov (.tmp 0), some (10, false), false⟩, []),
    (⟨some 18, .nilCheck (.tmp 17), some (10, false), false⟩, []),
    (⟨some 19, .fieldAddr 0 (.tmp 18), some (10, false), false⟩, []),
    (⟨some 20, .load false 1 (.tmp 19), some (10, false), false⟩, []),
    (⟨some 21, .len .slice (.tmp 20), some (10, false), false⟩, []),
    (⟨some 22, .bin .geq (.tmp 16) (.tmp 21), some (10, false), false⟩, []),
    (⟨some 23, .pick (.tmp 10) (.const (.bool true)) (.tmp 22), none, false⟩, [])] [0, 1, 4, 23])
  (.cond (.tmp 23)
  (.seq (.ops [
      ⟨some 24, .build [.int .i64 0, .str [], .int .i64 0] [], none, false⟩,
      ⟨none, .storeL 3 (.tmp 4) (.tmp 24), none, false⟩] [4])
    .ret)
  .skip))
  (.seq (.opsD [
    (⟨some 25, .mov (.tmp 0), none, false⟩, []),
    (⟨some 26, .nilCheck (.tmp 25), none, false⟩, []),
    (⟨some 27, .fieldAddr 0 (.tmp 26), none, false⟩, []),
    (⟨some 28, .load false 1 (.tmp 27), none, false⟩, []),
    (⟨some 29, .mov (.tmp 0), none, false⟩, []),
    (⟨some 30, .nilCheck (.tmp 29), none, false⟩, []),
    (⟨some 31, .fieldAddr 1 (.tmp 30), none, false⟩, []),
    (⟨some 32, .load false 1 (.tmp 31), none, false⟩, []),
    (⟨some 33, .mov (.tmp 1), none, false⟩, []),
    (⟨some 34, .bin .add (.tmp 32) (.tmp 33), none, false⟩, []),
    (⟨some 35, .indexAddr 3 (.tmp 28) (.tmp 34), none, false⟩, []),
    (⟨some 36, .load true 3 (.tmp 35), none, false⟩, []),
    (⟨none, .storeL 3 (.tmp 4) (.tmp 36), none, false⟩, [])] [4])
  .ret)))⟩
/-- (*scribe/parse.parser).over -/
def af135 : AFunc := ⟨1, [.tmp 2],
  (.seq (.ops [
    ⟨some 2, .mov (.const (.bool false)), none, false⟩] [0])
  (.seq (.ops [
    ⟨some 3, .mov (.tmp 0), none, false⟩,
    ⟨some 4, .buildSlice true 9 1 3 [.str []] [(0, (.const (.string ⟨#[59]⟩))), (1, (.const (.string ⟨#[125]⟩))), (2, (.const (.string ⟨#[41]⟩)))], none, false⟩,
    ⟨some 5, .call 29 [(.tmp 3), (.tmp 4)], none, false⟩,
    ⟨some 6, .mov (.tmp 5), none, false⟩,
    ⟨some 7, .mov (.tmp 0), some (6, false), false⟩,
    ⟨some 8, .call 30 [(.tmp 7)], some (6, false), false⟩,
    ⟨some 9, .field false 1 0 (.tmp 8), some (6, false), false⟩,
    ⟨some 10, .bin .eql (.tmp 9) (.const (.int .i64 1)), some (6, false), false⟩,
    ⟨some 11, .pick (.tmp 6) (.const (.bool true)) (.tmp 10), none, false⟩,
    ⟨some 12, .mov (.tmp 11), none, false⟩,
    ⟨some 13, .mov (.tmp 0), some (12, false), false⟩,
    ⟨some 14, .call 30 [(.tmp 13)], some (12, false), false⟩,
    ⟨some 15, .field false 1 0 (.tmp 14), some (12, false), false⟩,
    ⟨some 16, .bin .eql (.tmp 15) (.const (.int .i64 0)), some (12, false), false⟩,
    ⟨some 17, .pick (.tmp 12) (.const (.bool true)) (.tmp 16), none, false⟩,
    ⟨some 2, .mov (.tmp 17), none, false⟩] [2])
  .ret))⟩
/-- (*scribe/parse.parser).output -/
def af136 : AFunc := ⟨2, [.cellL true 4 4],
  (.seq (.ops [
    ⟨some 4, .allocL 0 [.str [], .str [], .int .i64 0, .nilSlice], none, false⟩] [0, 1, 4])
  (.seq (.ops [
    ⟨some 9, .mov (.tmp 0), none, false⟩,
    ⟨some 10, .nilCheck (.tmp 9), none, false⟩,
    ⟨some 11, .fieldAddr 3 (.tmp 10), none, false⟩,
    ⟨none, .store 1 (.tmp 11) (.const (.bool true)), none, false⟩] [0, 1, 4])
  (.seq (.ops [
    ⟨some 5, .mov (.const (.slice none 0 0)), none, false⟩] [0, 1, 4, 5])
  (.seq (.seq (.ops [
    ⟨some 12, .mov (.tmp 0), none, false⟩,
    ⟨some 13, .call 143 [(.tmp 12)], none, false⟩] [0, 1, 4, 5, 13])
  (.cond (.tmp 13)
  (.seq (.ops [
      ⟨some 14, .mov (.tmp 0), none, false⟩,
      ⟨some 15, .call 31 [(.tmp 14)], none, false⟩] [0, 1, 4])
    (.ops [
      ⟨some 16, .mov (.tmp 0), none, false⟩,
      ⟨some 17, .call 144 [(.tmp 16), (.const (.string ⟨#[41]⟩))], none, false⟩,
      ⟨some 5, .mov (.tmp 17), none, false⟩] [0, 1, 4, 5]))
  (.block 0
    (.loop [0, 1, 4, 5]
      (.seq (.seq (.ops [
          ⟨some 18, .mov (.tmp 0), none, false⟩,
          ⟨some 19, .nilCheck (.tmp 18), none, false⟩,
          ⟨some 20, .fieldAddr 4 (.tmp 19), none, false⟩,
          ⟨some 21, .load false 1 (.tmp 20), none, false⟩,
          ⟨some 22, .bin .eql (.tmp 21) (.const (.int .i64 0)), none, false⟩,
          ⟨some 23, .mov (.tmp 22), none, false⟩,
          ⟨some 24, .mov (.tmp 0), some (23, true), false⟩,
          ⟨some 25, .call 135 [(.tmp 24)], some (23, true), false⟩,
          ⟨some 26, .un .not (.tmp 25), some (23, true), false⟩,
          ⟨some 27, .pick (.tmp 23) (.tmp 26) (.const (.bool false)), none, false⟩,
          ⟨some 28, .mov (.tmp 27), none, false⟩,
          ⟨some 29, .mov (.tmp 0), some (28, true), false⟩,
          ⟨some 30, .buildSlice true 9 1 2 [.str []] [(0, (.const (.string ⟨#[62]⟩))), (1, (.const (.string ⟨#[62, 62]⟩)))], some (28, true), false⟩,
          ⟨some 31, .call 29 [(.tmp 29), (.tmp 30)], some (28, true), false⟩,
          ⟨some 32, .un .not (.tmp 31), some (28, true), false⟩,
          ⟨some 33, .pick (.tmp 28) (.tmp 32) (.const (.bool false)), none, false⟩] [0, 1, 4, 5, 33])
        (.cond (.tmp 33)
        .skip
        (.exit 0)))
        (.block 1
        (.seq (.seq (.ops [
            ⟨some 34, .mov (.tmp 5), none, false⟩,
            ⟨some 35, .len .slice (.tmp 34), none, false⟩,
            ⟨some 36, .bin .gtr (.tmp 35) (.const (.int .i64 0)), none, false⟩] [0, 1, 4, 5, 36])
          (.cond (.tmp 36)
          (.seq (.ops [
              ⟨some 37, .mov (.tmp 0), none, false⟩,
              ⟨some 38, .call 53 [(.tmp 37), (.const (.string ⟨#[44]⟩))], none, false⟩] [0, 1, 4, 5])
            (.ops [
              ⟨some 39, .mov (.tmp 0), none, false⟩,
              ⟨some 40, .call 54 [(.tmp 39)], none, false⟩] [0, 1, 4, 5]))
          .skip))
          (.ops [
            ⟨some 41, .mov (.tmp 5), none, false⟩,
            ⟨some 42, .mov (.tmp 0), none, false⟩,
            ⟨some 43, .call 55 [(.tmp 42)], none, false⟩,
            ⟨some 44, .buildSlice true 25 4 1 [.str [], .str [], .int .i64 0, .nilSlice] [(0, (.tmp 43))], none, false⟩,
            ⟨some 45, .append false 25 4 64 (.tmp 41) (.tmp 44), none, false⟩,
            ⟨some 5, .mov (.tmp 45), none, false⟩] [0, 1, 4, 5]))))))))
  (.seq (.ops [
    ⟨some 46, .call 28 [(.const (.string ⟨#[110, 111, 110, 101]⟩)), (.const (.slice none 0 0))], none, false⟩,
    ⟨some 6, .allocL 0 [.str [], .str [], .int .i64 0, .nilSlice], none, false⟩,
    ⟨none, .storeL 4 (.tmp 6) (.tmp 46), none, false⟩] [0, 1, 4, 5, 6])
  (.seq (.seq (.ops [
    ⟨some 47, .makeMap, none, false⟩,
    ⟨none, .mapUpdate (.cell .str) (.tmp 47) (.const (.string ⟨#[62]⟩)) (.const (.string ⟨#[116, 111]⟩)), none, false⟩,
    ⟨none, .mapUpdate (.cell .str) (.tmp 47) (.const (.string ⟨#[62, 62]⟩)) (.const (.string ⟨#[97, 112, 112, 101, 110, 100]⟩)), none, false⟩,
    ⟨some 48, .mov (.tmp 47), none, false⟩,
    ⟨some 49, .range (.tmp 48), none, false⟩] [0, 1, 4, 5, 6, 49])
  (.mblock 2 49 100 [0, 1, 4, 5, 6]
  (.loop [0, 1, 4, 5, 6, 49]
    (.seq (.ops [
        ⟨some 50, .next (.tmp 49), none, false⟩,
        ⟨some 51, .extract (.tmp 50) 0, none, false⟩] [0, 1, 4, 5, 6, 49, 51])
      (.seq (.cond (.tmp 51)
      .skip
      (.exit 2))
      (.block 3
      (.seq (.ops [
          ⟨some 52, .entry (.tmp 49), none, false⟩,
          ⟨some 53, .extract (.tmp 52) 0, none, false⟩,
          ⟨some 54, .extract (.tmp 52) 1, none, false⟩,
          ⟨some 7, .mov (.tmp 53), none, false⟩,
          ⟨some 8, .mov (.tmp 54), none, false⟩] [0, 1, 4, 5, 6, 7, 8, 49])
        (.seq (.ops [
          ⟨some 55, .mov (.tmp 0), none, false⟩,
          ⟨some 56, .mov (.tmp 7), none, false⟩,
          ⟨some 57, .call 49 [(.tmp 55), (.tmp 56)], none, false⟩] [0, 1, 4, 5, 6, 8, 49, 57])
        (.cond (.tmp 57)
        (.seq (.ops [
            ⟨some 58, .mov (.tmp 8), none, false⟩,
            ⟨some 59, .mov (.tmp 0), none, false⟩,
            ⟨some 60, .call 145 [(.tmp 59)], none, false⟩,
            ⟨some 61, .buildSlice true 25 4 1 [.str [], .str [], .int .i64 0, .nilSlice] [(0, (.tmp 60))], none, false⟩,
            ⟨some 62, .call 28 [(.tmp 58), (.tmp 61)], none, false⟩,
            ⟨none, .storeL 4 (.tmp 6) (.tmp 62), none, false⟩] [0, 1, 4, 5, 6])
          (.exit 2))
        .skip)))))))))
  (.seq (.ops [
    ⟨some 63, .mov (.tmp 0), none, false⟩,
    ⟨some 64, .nilCheck (.tmp 63), none, false⟩,
    ⟨some 65, .fieldAddr 3 (.tmp 64), none, false⟩,
    ⟨none, .store 1 (.tmp 65) (.const (.bool false)), none, false⟩] [0, 1, 4, 5, 6])
  (.seq (.seq (.ops [
    ⟨some 66, .mov (.tmp 1), none, false⟩,
    ⟨some 67, .bin .eql (.tmp 66) (.const (.string ⟨#[112, 114, 105, 110, 116, 102]⟩)), none, false⟩,
    ⟨some 68, .mov (.tmp 67), none, false⟩,
    ⟨some 69, .mov (.tmp 5), some (68, true), false⟩,
    ⟨some 70, .len .slice (.tmp 69), some (68, true), false⟩,
    ⟨some 71, .bin .eql (.tmp 70) (.const (.int .i64 0)), some (68, true), false⟩,
    ⟨some 72, .pick (.tmp 68) (.tmp 71) (.const (.bool false)), none, false⟩] [0, 1, 4, 5, 6, 72])
  (.cond (.tmp 72)
  (.ops [
      ⟨some 73, .mov (.tmp 0), none, false⟩,
      ⟨some 74, .call 56 [(.tmp 73)], none, false⟩] [1, 4, 5, 6])
  .skip))
  (.seq (.ops [
    ⟨some 75, .mov (.tmp 1), none, false⟩,
    ⟨some 76, .loadL true 4 (.tmp 6), none, false⟩,
    ⟨some 77, .buildSlice true 25 4 1 [.str [], .str [], .int .i64 0, .nilSlice] [(0, (.tmp 76))], none, false⟩,
    ⟨some 78, .mov (.tmp 5), none, false⟩,
    ⟨some 79, .append false 25 4 64 (.tmp 77) (.tmp 78), none, false⟩,
    ⟨some 80, .call 28 [(.tmp 75), (.tmp 79)], none, false⟩,
    ⟨none, .storeL 4 (.tmp 4) (.tmp 80), none, false⟩] [4])
  .ret)))))))))⟩
/-- (*scribe/parse.parser).in -/
def af137 : AFunc := ⟨1, [.cellL true 4 2],
  (.seq (.ops [
    ⟨some 2, .allocL 0 [.str [], .str [], .int .i64 0, .nilSlice], none, false⟩] [0, 2])
  (.seq (.ops [
    ⟨some 4, .mov (.tmp 0), none, false⟩,
    ⟨some 5, .call 146 [(.tmp 4)], none, false⟩,
    ⟨some 3, .allocL 0 [.str [], .str [], .int .i64 0, .nilSlice], none, false⟩,
    ⟨none, .storeL 4 (.tmp 3) (.tmp 5), none, false⟩] [0, 2, 3])
  (.seq (.block 0
  (.loop [0, 2, 3]
    (.seq (.seq (.ops [
        ⟨some 6, .mov (.tmp 0), none, false⟩,
        ⟨some 7, .call 49 [(.tmp 6), (.const (.string ⟨#[105, 110]⟩))], none, false⟩] [0, 2, 3, 7])
      (.cond (.tmp 7)
      .skip
      (.exit 0)))
      (.block 1
      (.opsD [
          (⟨some 8, .mov (.tmp 0), none, false⟩, []),
          (⟨some 9, .buildSlice true 3 1 1 [.int .i64 0] [(0, (.const (.int .i64 5)))], none, false⟩, []),
          (⟨some 10, .call 52 [(.tmp 8), (.tmp 9)], none, false⟩, []),
          (⟨some 11, .loadL true 4 (.tmp 3), none, false⟩, []),
          (⟨some 12, .buildSlice true 25 4 1 [.str [], .str [], .int .i64 0, .nilSlice] [(0, (.tmp 11))], none, false⟩, []),
          (⟨some 13, .call 51 [(.const (.string ⟨#[105, 110]⟩)), (.tmp 10), (.tmp 12)], none, false⟩, []),
          (⟨none, .storeL 4 (.tmp 3) (.tmp 13), none, false⟩, [])] [0, 2, 3])))))
  (.seq (.ops [
    ⟨some 14, .loadL true 4 (.tmp 3), none, false⟩,
    ⟨none, .storeL 4 (.tmp 2) (.tmp 14), none, false⟩] [2])
  .ret))))⟩
/-- (*scribe/code.compiler).replace$1 -/
def af138 : AFunc := ⟨4, [],
  (.seq (.seq (.ops [
    ⟨some 7, .load false 1 (.tmp 0), none, false⟩,
    ⟨some 8, .fieldAddr 1 (.tmp 1), none, false⟩,
    ⟨some 9, .load false 1 (.tmp 8), none, false⟩,
    ⟨some 10, .call 68 [(.tmp 7), (.tmp 9)], none, false⟩,
    ⟨some 6, .mov (.tmp 10), none, false⟩,
    ⟨some 11, .extract (.tmp 6) 0, none, false⟩,
    ⟨some 12, .extract (.tmp 6) 1, none, false⟩,
    ⟨some 4, .mov (.tmp 11), none, false⟩,
    ⟨some 5, .mov (.tmp 12), none, false⟩] [0, 1, 2, 3, 4, 5])
  (.seq (.ops [
    ⟨some 13, .fieldAddr 0 (.tmp 1), none, false⟩,
    ⟨some 14, .load false 1 (.tmp 13), none, false⟩] [0, 2, 3, 4, 5, 14])
  (.block 0
  (.seq (.ops [
      ⟨some 22, .bin .eql (.tmp 14) (.const (.string ⟨#[118, 97, 114]⟩)), none, false⟩,
      ⟨some 21, .mov (.tmp 22), none, false⟩] [0, 2, 3, 4, 5, 14, 21])
    (.cond (.tmp 21)
    (.ops [
        ⟨some 23, .load false 1 (.tmp 0), none, false⟩,
        ⟨some 24, .mov (.tmp 4), none, false⟩,
        ⟨some 25, .mov (.tmp 5), none, false⟩,
        ⟨some 26, .call 42 [(.tmp 23), (.const (.int .i64 3)), (.tmp 24), (.tmp 25)], none, false⟩] [0, 2, 3])
    (.seq (.ops [
        ⟨some 28, .bin .eql (.tmp 14) (.const (.string ⟨#[102, 105, 101, 108, 100]⟩)), none, false⟩,
        ⟨some 27, .mov (.tmp 28), none, false⟩] [0, 2, 3, 4, 5, 27])
      (.cond (.tmp 27)
      (.seq (.ops [
          ⟨some 29, .load false 1 (.tmp 0), none, false⟩,
          ⟨some 30, .call 42 [(.tmp 29), (.const (.int .i64 20)), (.const (.int .i64 0)), (.const (.int .i64 0))], none, false⟩] [0, 2, 3])
        (.ops [
          ⟨some 31, .load false 1 (.tmp 0), none, false⟩,
          ⟨some 32, .call 42 [(.tmp 31), (.const (.int .i64 4)), (.const (.int .i64 0)), (.const (.int .i64 0))], none, false⟩] [0, 2, 3]))
      (.seq (.ops [
          ⟨some 15, .load false 1 (.tmp 0), none, false⟩,
          ⟨some 16, .call 42 [(.tmp 15), (.const (.int .i64 20)), (.const (.int .i64 0)), (.const (.int .i64 0))], none, false⟩] [0, 2, 3, 4, 5])
        (.ops [
          ⟨some 17, .load false 1 (.tmp 0), none, false⟩,
          ⟨some 18, .mov (.tmp 4), none, false⟩,
          ⟨some 19, .mov (.tmp 5), none, false⟩,
          ⟨some 20, .call 42 [(.tmp 17), (.const (.int .i64 5)), (.tmp 18), (.tmp 19)], none, false⟩] [0, 2, 3])))))))))
  (.seq (.opsD [
    (⟨some 33, .load false 1 (.tmp 0), none, false⟩, []),
    (⟨some 34, .fieldAddr 3 (.tmp 2), none, false⟩, []),
    (⟨some 35, .load false 1 (.tmp 34), none, false⟩, []),
    (⟨some 36, .indexAddr 4 (.tmp 35) (.const (.int .i64 0)), none, false⟩, []),
    (⟨some 37, .load true 4 (.tmp 36), none, false⟩, []),
    (⟨some 38, .call 102 [(.tmp 33), (.tmp 37)], none, false⟩, [])] [0, 2, 3])
  (.seq (.opsD [
    (⟨some 39, .load false 1 (.tmp 0), none, false⟩, []),
    (⟨some 40, .fieldAddr 3 (.tmp 2), none, false⟩, []),
    (⟨some 41, .load false 1 (.tmp 40), none, false⟩, []),
    (⟨some 42, .indexAddr 4 (.tmp 41) (.const (.int .i64 1)), none, false⟩, []),
    (⟨some 43, .load true 4 (.tmp 42), none, false⟩, []),
    (⟨some 44, .call 63 [(.tmp 39), (.tmp 43)], none, false⟩, [])] [0, 3])
  (.ops [
    ⟨some 45, .load false 1 (.tmp 0), none, false⟩,
    ⟨some 46, .load false 1 (.tmp 3), none, false⟩,
    ⟨some 47, .call 42 [(.tmp 45), (.const (.int .i64 25)), (.tmp 46), (.const (.int .i64 0))], none, false⟩] []))))⟩
/-- (*scribe/code.checker).many$1 -/
def af139 : AFunc := ⟨1, [.tmp 2],
  (.seq (.ops [
    ⟨some 2, .mov (.const (.string ⟨#[]⟩)), none, false⟩] [0])
  (.seq (.ops [
    ⟨some 3, .mov (.const (.string ⟨#[]⟩)), none, false⟩] [0, 3])
  (.seq (.seq (.ops [
    ⟨some 4, .mov (.tmp 0), none, false⟩,
    ⟨some 5, .max (.tmp 4) (.const (.int .i64 0)), none, false⟩,
    ⟨some 6, .min (.tmp 5) (.const (.int .i64 5001)), none, false⟩,
    ⟨some 7, .mov (.const (.int .i64 0)), none, false⟩] [3, 6, 7])
  (.block 0
  (.loop [3, 6, 7]
    (.seq (.ops [
        ⟨some 8, .bin .lss (.tmp 7) (.tmp 6), none, false⟩] [3, 6, 7, 8])
      (.seq (.cond (.tmp 8)
      .skip
      (.exit 0))
      (.seq (.block 1
      (.ops [
          ⟨some 9, .mov (.tmp 3), none, false⟩,
          ⟨some 10, .bin .add (.tmp 9) (.const (.string ⟨#[118]⟩)), none, false⟩,
          ⟨some 3, .mov (.tmp 10), none, false⟩] [3, 6, 7]))
      (.ops [
        ⟨some 11, .bin .add (.tmp 7) (.const (.int .i64 1)), none, false⟩,
        ⟨some 7, .mov (.tmp 11), none, false⟩] [3, 6, 7])))))))
  (.seq (.ops [
    ⟨some 12, .mov (.tmp 3), none, false⟩,
    ⟨some 2, .mov (.tmp 12), none, false⟩] [2])
  .ret))))⟩
/-- (*scribe/parse.parser).listed -/
def af143 : AFunc := ⟨1, [.tmp 2],
  (.seq (.ops [
    ⟨some 2, .mov (.const (.bool false)), none, false⟩] [0])
  (.seq (.seq (.ops [
    ⟨some 7, .mov (.tmp 0), none, false⟩,
    ⟨some 8, .buildSlice true 9 1 1 [.str []] [(0, (.const (.string ⟨#[40]⟩)))], none, false⟩,
    ⟨some 9, .call 29 [(.tmp 7), (.tmp 8)], none, false⟩,
    ⟨some 10, .un .not (.tmp 9), none, false⟩] [0, 10])
  (.cond (.tmp 10)
  (.seq (.ops [
      ⟨some 2, .mov (.const (.bool false)), none, false⟩] [2])
    .ret)
  .skip))
  (.seq (.ops [
    ⟨some 3, .mov (.const (.int .i64 0)), none, false⟩] [0, 3])
  (.seq (.seq (.ops [
    ⟨some 11, .mov (.tmp 0), none, false⟩,
    ⟨some 12, .nilCheck (.tmp 11), none, false⟩,
    ⟨some 13, .fieldAddr 1 (.tmp 12), none, false⟩,
    ⟨some 14, .load false 1 (.tmp 13), none, false⟩,
    ⟨some 4, .mov (.tmp 14), none, false⟩] [0, 3, 4])
  (.block 0
  (.loop [0, 3, 4]
    (.seq (.seq (.ops [
        ⟨some 15, .mov (.tmp 4), none, false⟩,
        ⟨some 16, .mov (.tmp 0), none, false⟩,
        ⟨some 17, .nilCheck (.tmp 16), none, false⟩,
        ⟨some 18, .fieldAddr 0 (.tmp 17), none, false⟩,
        ⟨some 19, .load false 1 (.tmp 18), none, false⟩,
        ⟨some 20, .len .slice (.tmp 19), none, false⟩,
        ⟨some 21, .bin .lss (.tmp 15) (.tmp 20), none, false⟩] [0, 3, 4, 21])
      (.cond (.tmp 21)
      .skip
      (.exit 0)))
      (.seq (.block 1
      (.seq (.ops [
          ⟨some 24, .mov (.tmp 0), none, false⟩,
          ⟨some 25, .nilCheck (.tmp 24), none, false⟩,
          ⟨some 26, .fieldAddr 0 (.tmp 25), none, false⟩,
          ⟨some 27, .load false 1 (.tmp 26), none, false⟩,
          ⟨some 28, .mov (.tmp 4), none, false⟩,
          ⟨some 29, .indexAddr 3 (.tmp 27) (.tmp 28), none, false⟩,
          ⟨some 30, .load true 3 (.tmp 29), none, false⟩,
          ⟨some 5, .allocL 0 [.int .i64 0, .str [], .int .i64 0], none, false⟩,
          ⟨none, .storeL 3 (.tmp 5) (.tmp 30), none, false⟩] [0, 3, 4, 5])
        (.seq (.block 2
        (.seq (.ops [
            ⟨some 32, .fieldL 0 (.tmp 5), none, false⟩,
            ⟨some 33, .loadL false 1 (.tmp 32), none, false⟩,
            ⟨some 34, .bin .eql (.tmp 33) (.const (.int .i64 8)), none, false⟩,
            ⟨some 35, .mov (.tmp 34), none, false⟩,
            ⟨some 36, .fieldL 1 (.tmp 5), some (35, true), false⟩,
            ⟨some 37, .loadL false 1 (.tmp 36), some (35, true), false⟩,
            ⟨some 38, .bin .eql (.tmp 37) (.const (.string ⟨#[40]⟩)), some (35, true), false⟩,
            ⟨some 39, .pick (.tmp 35) (.tmp 38) (.const (.bool false)), none, false⟩,
            ⟨some 31, .mov (.tmp 39), none, false⟩] [0, 3, 4, 5, 31])
          (.cond (.tmp 31)
          (.ops [
              ⟨some 40, .mov (.tmp 3), none, false⟩,
              ⟨some 41, .bin .add (.tmp 40) (.const (.int .i64 1)), none, false⟩,
              ⟨some 3, .mov (.tmp 41), none, false⟩] [0, 3, 4])
          (.seq (.ops [
              ⟨some 43, .fieldL 0 (.tmp 5), none, false⟩,
              ⟨some 44, .loadL false 1 (.tmp 43), none, false⟩,
              ⟨some 45, .bin .eql (.tmp 44) (.const (.int .i64 8)), none, false⟩,
              ⟨some 46, .mov (.tmp 45), none, false⟩,
              ⟨some 47, .fieldL 1 (.tmp 5), some (46, true), false⟩,
              ⟨some 48, .loadL false 1 (.tmp 47), some (46, true), false⟩,
              ⟨some 49, .bin .eql (.tmp 48) (.const (.string ⟨#[41]⟩)), some (46, true), false⟩,
              ⟨some 50, .pick (.tmp 46) (.tmp 49) (.const (.bool false)), none, false⟩,
              ⟨some 42, .mov (.tmp 50), none, false⟩] [0, 3, 4, 42])
            (.cond (.tmp 42)
            (.ops [
                ⟨some 51, .mov (.tmp 3), none, false⟩,
                ⟨some 52, .bin .sub (.tmp 51) (.const (.int .i64 1)), none, false⟩,
                ⟨some 3, .mov (.tmp 52), none, false⟩] [0, 3, 4])
            .skip)))))
        (.seq (.ops [
          ⟨some 53, .mov (.tmp 3), none, false⟩,
          ⟨some 54, .bin .eql (.tmp 53) (.const (.int .i64 0)), none, false⟩] [0, 3, 4, 54])
        (.cond (.tmp 54)
        (.seq (.opsD [
            (⟨some 55, .mov (.tmp 0), none, false⟩, []),
            (⟨some 56, .nilCheck (.tmp 55), none, false⟩, []),
            (⟨some 57, .fieldAddr 0 (.tmp 56), none, false⟩, []),
            (⟨some 58, .load false 1 (.tmp 57), none, false⟩, []),
            (⟨some 59, .mov (.tmp 4), none, false⟩, []),
            (⟨some 60, .bin .add (.tmp 59) (.const (.int .i64 1)), none, false⟩, []),
            (⟨some 61, .mov (.tmp 0), none, false⟩, []),
            (⟨some 62, .nilCheck (.tmp 61), none, false⟩, []),
            (⟨some 63, .fieldAddr 0 (.tmp 62), none, false⟩, []),
            (⟨some 64, .load false 1 (.tmp 63), none, false⟩, []),
            (⟨some 65, .len .slice (.tmp 64), none, false⟩, []),
            (⟨some 66, .bin .sub (.tmp 65) (.const (.int .i64 1)), none, false⟩, []),
            (⟨some 67, .min (.tmp 60) (.tmp 66), none, false⟩, []),
            (⟨some 68, .indexAddr 3 (.tmp 58) (.tmp 67), none, false⟩, []),
            (⟨some 69, .load true 3 (.tmp 68), none, false⟩, []),
            (⟨some 6, .allocL 0 [.int .i64 0, .str [], .int .i64 0], none, false⟩, []),
            (⟨none, .storeL 3 (.tmp 6) (.tmp 69), none, false⟩, [])] [6])
          (.seq (.ops [
            ⟨some 70, .fieldL 0 (.tmp 6), none, false⟩,
            ⟨some 71, .loadL false 1 (.tmp 70), none, false⟩,
            ⟨some 72, .bin .eql (.tmp 71) (.const (.int .i64 0)), none, false⟩,
            ⟨some 73, .mov (.tmp 72), none, false⟩,
            ⟨some 74, .fieldL 0 (.tmp 6), some (73, false), false⟩,
            ⟨some 75, .loadL false 1 (.tmp 74), some (73, false), false⟩,
            ⟨some 76, .bin .eql (.tmp 75) (.const (.int .i64 1)), some (73, false), false⟩,
            ⟨some 77, .pick (.tmp 73) (.const (.bool true)) (.tmp 76), none, false⟩,
            ⟨some 78, .mov (.tmp 77), none, false⟩,
            ⟨some 79, .fieldL 0 (.tmp 6), some (78, false), false⟩,
            ⟨some 80, .loadL false 1 (.tmp 79), some (78, false), false⟩,
            ⟨some 81, .bin .eql (.tmp 80) (.const (.int .i64 8)), some (78, false), false⟩,
            ⟨some 82, .mov (.tmp 81), some (78, false), false⟩,
            ⟨some 83, .fieldL 1 (.tmp 6), some (82, true), false⟩,
            ⟨some 84, .loadL false 1 (.tmp 83), some (82, true), false⟩,
            ⟨some 85, .bin .add (.const (.string ⟨#[32]⟩)) (.tmp 84), some (82, true), false⟩,
            ⟨some 86, .bin .add (.tmp 85) (.const (.string ⟨#[32]⟩)), some (82, true), false⟩,
            ⟨some 87, .ext 111 [(.const (.string ⟨#[32, 59, 32, 125, 32, 62, 32, 62, 62, 32]⟩)), (.tmp 86)], some (82, true), false⟩,
            ⟨some 88, .pick (.tmp 82) (.tmp 87) (.const (.bool false)), some (78, false), false⟩,
            ⟨some 89, .pick (.tmp 78) (.const (.bool true)) (.tmp 88), none, false⟩,
            ⟨some 2, .mov (.tmp 89), none, false⟩] [2])
          .ret))
        .skip)))))
      (.ops [
        ⟨some 22, .mov (.tmp 4), none, false⟩,
        ⟨some 23, .bin .add (.tmp 22) (.const (.int .i64 1)), none, false⟩,
        ⟨some 4, .mov (.tmp 23), none, false⟩] [0, 3, 4]))))))
  (.seq (.ops [
    ⟨some 2, .mov (.const (.bool false)), none, false⟩] [2])
  .ret)))))⟩
/-- (*scribe/parse.parser).list -/
def af144 : AFunc := ⟨2, [.tmp 4],
  (.seq (.ops [
    ⟨some 4, .mov (.const (.slice none 0 0)), none, false⟩] [0, 1])
  (.seq (.ops [
    ⟨some 5, .mov (.const (.slice none 0 0)), none, false⟩] [0, 1, 5])
  (.seq (.ops [
    ⟨some 7, .mov (.tmp 0), none, false⟩,
    ⟨some 8, .nilCheck (.tmp 7), none, false⟩,
    ⟨some 9, .fieldAddr 3 (.tmp 8), none, false⟩,
    ⟨some 10, .load false 1 (.tmp 9), none, false⟩,
    ⟨some 6, .mov (.tmp 10), none, false⟩] [0, 1, 5, 6])
  (.seq (.ops [
    ⟨some 11, .mov (.tmp 0), none, false⟩,
    ⟨some 12, .nilCheck (.tmp 11), none, false⟩,
    ⟨some 13, .fieldAddr 3 (.tmp 12), none, false⟩,
    ⟨none, .store 1 (.tmp 13) (.const (.bool false)), none, false⟩] [0, 1, 5, 6])
  (.seq (.ops [
    ⟨some 14, .mov (.tmp 0), none, false⟩,
    ⟨some 15, .call 54 [(.tmp 14)], none, false⟩] [0, 1, 5, 6])
  (.seq (.block 0
  (.loop [0, 1, 5, 6]
    (.seq (.seq (.ops [
        ⟨some 16, .mov (.tmp 0), none, false⟩,
        ⟨some 17, .nilCheck (.tmp 16), none, false⟩,
        ⟨some 18, .fieldAddr 4 (.tmp 17), none, false⟩,
        ⟨some 19, .load false 1 (.tmp 18), none, false⟩,
        ⟨some 20, .bin .eql (.tmp 19) (.const (.int .i64 0)), none, false⟩,
        ⟨some 21, .mov (.tmp 20), none, false⟩,
        ⟨some 22, .mov (.tmp 0), some (21, true), false⟩,
        ⟨some 23, .mov (.tmp 1), some (21, true), false⟩,
        ⟨some 24, .buildSlice true 9 1 1 [.str []] [(0, (.tmp 23))], some (21, true), false⟩,
        ⟨some 25, .call 29 [(.tmp 22), (.tmp 24)], some (21, true), false⟩,
        ⟨some 26, .un .not (.tmp 25), some (21, true), false⟩,
        ⟨some 27, .pick (.tmp 21) (.tmp 26) (.const (.bool false)), none, false⟩] [0, 1, 5, 6, 27])
      (.cond (.tmp 27)
      .skip
      (.exit 0)))
      (.block 1
      (.seq (.seq (.ops [
          ⟨some 28, .mov (.tmp 5), none, false⟩,
          ⟨some 29, .len .slice (.tmp 28), none, false⟩,
          ⟨some 30, .bin .gtr (.tmp 29) (.const (.int .i64 0)), none, false⟩] [0, 1, 5, 6, 30])
        (.cond (.tmp 30)
        (.seq (.ops [
            ⟨some 31, .mov (.tmp 0), none, false⟩,
            ⟨some 32, .call 53 [(.tmp 31), (.const (.string ⟨#[44]⟩))], none, false⟩] [0, 1, 5, 6])
          (.ops [
            ⟨some 33, .mov (.tmp 0), none, false⟩,
            ⟨some 34, .call 54 [(.tmp 33)], none, false⟩] [0, 1, 5, 6]))
        .skip))
        (.seq (.ops [
          ⟨some 35, .mov (.tmp 5), none, false⟩,
          ⟨some 36, .mov (.tmp 0), none, false⟩,
          ⟨some 37, .call 55 [(.tmp 36)], none, false⟩,
          ⟨some 38, .buildSlice true 25 4 1 [.str [], .str [], .int .i64 0, .nilSlice] [(0, (.tmp 37))], none, false⟩,
          ⟨some 39, .append false 25 4 64 (.tmp 35) (.tmp 38), none, false⟩,
          ⟨some 5, .mov (.tmp 39), none, false⟩] [0, 1, 5, 6])
        (.ops [
          ⟨some 40, .mov (.tmp 0), none, false⟩,
          ⟨some 41, .call 54 [(.tmp 40)], none, false⟩] [0, 1, 5, 6])))))))
  (.seq (.ops [
    ⟨some 42, .mov (.tmp 0), none, false⟩,
    ⟨some 43, .mov (.tmp 1), none, false⟩,
    ⟨some 44, .call 53 [(.tmp 42), (.tmp 43)], none, false⟩] [0, 5, 6])
  (.seq (.ops [
    ⟨some 45, .mov (.tmp 0), none, false⟩,
    ⟨some 46, .mov (.tmp 6), none, false⟩,
    ⟨some 47, .nilCheck (.tmp 45), none, false⟩,
    ⟨some 48, .fieldAddr 3 (.tmp 47), none, false⟩,
    ⟨none, .store 1 (.tmp 48) (.tmp 46), none, false⟩] [5])
  (.seq (.ops [
    ⟨some 49, .mov (.tmp 5), none, false⟩,
    ⟨some 4, .mov (.tmp 49), none, false⟩] [4])
  .ret)))))))))⟩
/-- (*scribe/parse.parser).cat -/
def af145 : AFunc := ⟨1, [.cellL true 4 2],
  (.seq (.ops [
    ⟨some 2, .allocL 0 [.str [], .str [], .int .i64 0, .nilSlice], none, false⟩] [0, 2])
  (.seq (.ops [
    ⟨some 5, .mov (.tmp 0), none, false⟩,
    ⟨some 6, .call 150 [(.tmp 5)], none, false⟩,
    ⟨some 3, .allocL 0 [.str [], .str [], .int .i64 0, .nilSlice], none, false⟩,
    ⟨none, .storeL 4 (.tmp 3) (.tmp 6), none, false⟩] [0, 2, 3])
  (.block 0
  (.loop [0, 2, 3]
    (.block 1
      (.seq (.ops [
          ⟨some 7, .mov (.tmp 0), none, false⟩,
          ⟨some 8, .call 30 [(.tmp 7)], none, false⟩,
          ⟨some 4, .allocL 0 [.int .i64 0, .str [], .int .i64 0], none, false⟩,
          ⟨none, .storeL 3 (.tmp 4) (.tmp 8), none, false⟩] [0, 2, 3, 4])
        (.seq (.seq (.ops [
          ⟨some 9, .buildSlice true 3 1 5 [.int .i64 0] [(0, (.const (.int .i64 2))), (1, (.const (.int .i64 3))), (2, (.const (.int .i64 5))), (3, (.const (.int .i64 6))), (4, (.const (.int .i64 9)))], none, false⟩,
          ⟨some 10, .fieldL 0 (.tmp 4), none, false⟩,
          ⟨some 11, .loadL false 1 (.tmp 10), none, false⟩,
          ⟨some 12, .call 89 [(.tmp 9), (.tmp 11)], none, false⟩,
          ⟨some 13, .un .not (.tmp 12), none, false⟩,
          ⟨some 14, .mov (.tmp 13), none, false⟩,
          ⟨some 15, .mov (.tmp 0), some (14, true), false⟩,
          ⟨some 16, .buildSlice true 9 1 2 [.str []] [(0, (.const (.string ⟨#[36]⟩))), (1, (.const (.string ⟨#[40]⟩)))], some (14, true), false⟩,
          ⟨some 17, .call 29 [(.tmp 15), (.tmp 16)], some (14, true), false⟩,
          ⟨some 18, .un .not (.tmp 17), some (14, true), false⟩,
          ⟨some 19, .pick (.tmp 14) (.tmp 18) (.const (.bool false)), none, false⟩] [0, 2, 3, 19])
        (.cond (.tmp 19)
        (.seq (.ops [
            ⟨some 20, .loadL true 4 (.tmp 3), none, false⟩,
            ⟨none, .storeL 4 (.tmp 2) (.tmp 20), none, false⟩] [2])
          .ret)
        .skip))
        (.opsD [
          (⟨some 21, .loadL true 4 (.tmp 3), none, false⟩, []),
          (⟨some 22, .mov (.tmp 0), none, false⟩, []),
          (⟨some 23, .call 150 [(.tmp 22)], none, false⟩, []),
          (⟨some 24, .buildSlice true 25 4 2 [.str [], .str [], .int .i64 0, .nilSlice] [(0, (.tmp 21)), (1, (.tmp 23))], none, false⟩, []),
          (⟨some 25, .call 28 [(.const (.string ⟨#[99, 97, 116]⟩)), (.tmp 24)], none, false⟩, []),
          (⟨none, .storeL 4 (.tmp 3) (.tmp 25), none, false⟩, [])] [0, 2, 3]))))))))⟩
/-- (*scribe/parse.parser).match -/
def af146 : AFunc := ⟨1, [.cellL true 4 2],
  (.seq (.ops [
    ⟨some 2, .allocL 0 [.str [], .str [], .int .i64 0, .nilSlice], none, false⟩] [0, 2])
  (.seq (.ops [
    ⟨some 3, .mov (.tmp 0), none, false⟩,
    ⟨some 4, .mov (.tmp 0), none, false⟩,
    ⟨some 5, .clos 151 [(.tmp 4)] [], none, false⟩,
    ⟨some 6, .makeMap, none, false⟩,
    ⟨none, .mapUpdate (.cell .str) (.tmp 6) (.const (.string ⟨#[126]⟩)) (.const (.string ⟨#[109, 97, 116, 99, 104]⟩)), none, false⟩,
    ⟨none, .mapUpdate (.cell .str) (.tmp 6) (.const (.string ⟨#[33, 126]⟩)) (.const (.string ⟨#[110, 111, 109, 97, 116, 99, 104]⟩)), none, false⟩,
    ⟨some 7, .mov (.tmp 6), none, false⟩,
    ⟨some 8, .call 120 [(.tmp 3), (.tmp 5), (.const (.bool false)), (.tmp 7)], none, false⟩,
    ⟨none, .storeL 4 (.tmp 2) (.tmp 8), none, false⟩] [2])
  .ret))⟩
/-- (*scribe/parse.parser).add -/
def af150 : AFunc := ⟨1, [.cellL true 4 2],
  (.seq (.ops [
    ⟨some 2, .allocL 0 [.str [], .str [], .int .i64 0, .nilSlice], none, false⟩] [0, 2])
  (.seq (.ops [
    ⟨some 3, .mov (.tmp 0), none, false⟩,
    ⟨some 4, .mov (.tmp 0), none, false⟩,
    ⟨some 5, .clos 153 [(.tmp 4)] [], none, false⟩,
    ⟨some 6, .makeMap, none, false⟩,
    ⟨none, .mapUpdate (.cell .str) (.tmp 6) (.const (.string ⟨#[43]⟩)) (.const (.string ⟨#[97, 100, 100]⟩)), none, false⟩,
    ⟨none, .mapUpdate (.cell .str) (.tmp 6) (.const (.string ⟨#[45]⟩)) (.const (.string ⟨#[115, 117, 98]⟩)), none, false⟩,
    ⟨some 7, .mov (.tmp 6), none, false⟩,
    ⟨some 8, .call 120 [(.tmp 3), (.tmp 5), (.const (.bool false)), (.tmp 7)], none, false⟩,
    ⟨none, .storeL 4 (.tmp 2) (.tmp 8), none, false⟩] [2])
  .ret))⟩
/-- (*scribe/parse.parser).rel -/
def af151 : AFunc := ⟨1, [.cellL true 4 2],
  (.seq (.ops [
    ⟨some 2, .allocL 0 [.str [], .str [], .int .i64 0, .nilSlice], none, false⟩] [0, 2])
  (.seq (.ops [
    ⟨some 6, .mov (.tmp 0), none, false⟩,
    ⟨some 7, .call 145 [(.tmp 6)], none, false⟩,
    ⟨some 3, .allocL 0 [.str [], .str [], .int .i64 0, .nilSlice], none, false⟩,
    ⟨none, .storeL 4 (.tmp 3) (.tmp 7), none, false⟩] [0, 2, 3])
  (.seq (.ops [
    ⟨some 8, .mov (.tmp 0), none, false⟩,
    ⟨some 9, .call 30 [(.tmp 8)], none, false⟩,
    ⟨some 4, .allocL 0 [.int .i64 0, .str [], .int .i64 0], none, false⟩,
    ⟨none, .storeL 3 (.tmp 4) (.tmp 9), none, false⟩] [0, 2, 3, 4])
  (.seq (.ops [
    ⟨some 10, .makeMap, none, false⟩,
    ⟨none, .mapUpdate (.cell .str) (.tmp 10) (.const (.string ⟨#[60]⟩)) (.const (.string ⟨#[108, 101, 115, 115]⟩)), none, false⟩,
    ⟨none, .mapUpdate (.cell .str) (.tmp 10) (.const (.string ⟨#[60, 61]⟩)) (.const (.string ⟨#[108, 101, 115, 115, 101, 113]⟩)), none, false⟩,
    ⟨none, .mapUpdate (.cell .str) (.tmp 10) (.const (.string ⟨#[61, 61]⟩)) (.const (.string ⟨#[101, 113, 117, 97, 108]⟩)), none, false⟩,
    ⟨none, .mapUpdate (.cell .str) (.tmp 10) (.const (.string ⟨#[33, 61]⟩)) (.const (.string ⟨#[110, 111, 116, 101, 113, 117, 97, 108]⟩)), none, false⟩,
    ⟨none, .mapUpdate (.cell .str) (.tmp 10) (.const (.string ⟨#[62]⟩)) (.const (.string ⟨#[103, 114, 101, 97, 116, 101, 114]⟩)), none, false⟩,
    ⟨none, .mapUpdate (.cell .str) (.tmp 10) (.const (.string ⟨#[62, 61]⟩)) (.const (.string ⟨#[103, 114, 101, 97, 116, 101, 114, 101, 113]⟩)), none, false⟩,
    ⟨some 11, .mov (.tmp 10), none, false⟩,
    ⟨some 12, .fieldL 1 (.tmp 4), none, false⟩,
    ⟨some 13, .loadL false 1 (.tmp 12), none, false⟩,
    ⟨some 14, .lookup (.cell .str) (.str []) False (.tmp 11) (.tmp 13), none, false⟩,
    ⟨some 5, .mov (.tmp 14), none, false⟩] [0, 2, 3, 4, 5])
  (.seq (.seq (.ops [
    ⟨some 15, .fieldL 0 (.tmp 4), none, false⟩,
    ⟨some 16, .loadL false 1 (.tmp 15), none, false⟩,
    ⟨some 17, .bin .neq (.tmp 16) (.const (.int .i64 8)), none, false⟩,
    ⟨some 18, .mov (.tmp 17), none, false⟩,
    ⟨some 19, .mov (.tmp 5), some (18, false), false⟩,
    ⟨some 20, .bin .eql (.tmp 19) (.const (.string ⟨#[]⟩)), some (18, false), false⟩,
    ⟨some 21, .pick (.tmp 18) (.const (.bool true)) (.tmp 20), none, false⟩,
    ⟨some 22, .mov (.tmp 21), none, false⟩,
    ⟨some 23, .fieldL 1 (.tmp 4), some (22, false), false⟩,
    ⟨some 24, .loadL false 1 (.tmp 23), some (22, false), false⟩,
    ⟨some 25, .bin .eql (.tmp 24) (.const (.string ⟨#[62]⟩)), some (22, false), false⟩,
    ⟨some 26, .mov (.tmp 25), some (22, false), false⟩,
    ⟨some 27, .mov (.tmp 0), some (26, true), false⟩,
    ⟨some 28, .nilCheck (.tmp 27), some (26, true), false⟩,
    ⟨some 29, .fieldAddr 3 (.tmp 28), some (26, true), false⟩,
    ⟨some 30, .load false 1 (.tmp 29), some (26, true), false⟩,
    ⟨some 31, .pick (.tmp 26) (.tmp 30) (.const (.bool false)), some (22, false), false⟩,
    ⟨some 32, .pick (.tmp 22) (.const (.bool true)) (.tmp 31), none, false⟩] [0, 2, 3, 5, 32])
  (.cond (.tmp 32)
  (.seq (.ops [
      ⟨some 33, .loadL true 4 (.tmp 3), none, false⟩,
      ⟨none, .storeL 4 (.tmp 2) (.tmp 33), none, false⟩] [2])
    .ret)
  .skip))
  (.seq (.ops [
    ⟨some 34, .mov (.tmp 0), none, false⟩,
    ⟨some 35, .call 31 [(.tmp 34)], none, false⟩] [0, 2, 3, 5])
  (.seq (.opsD [
    (⟨some 36, .mov (.tmp 5), none, false⟩, []),
    (⟨some 37, .loadL true 4 (.tmp 3), none, false⟩, []),
    (⟨some 38, .mov (.tmp 0), none, false⟩, []),
    (⟨some 39, .call 145 [(.tmp 38)], none, false⟩, []),
    (⟨some 40, .buildSlice true 25 4 2 [.str [], .str [], .int .i64 0, .nilSlice] [(0, (.tmp 37)), (1, (.tmp 39))], none, false⟩, []),
    (⟨some 41, .call 28 [(.tmp 36), (.tmp 40)], none, false⟩, []),
    (⟨none, .storeL 4 (.tmp 2) (.tmp 41), none, false⟩, [])] [2])
  .ret)))))))⟩
/-- (*scribe/parse.parser).mul -/
def af153 : AFunc := ⟨1, [.cellL true 4 2],
  (.seq (.ops [
    ⟨some 2, .allocL 0 [.str [], .str [], .int .i64 0, .nilSlice], none, false⟩] [0, 2])
  (.seq (.ops [
    ⟨some 3, .mov (.tmp 0), none, false⟩,
    ⟨some 4, .mov (.tmp 0), none, false⟩,
    ⟨some 5, .clos 154 [(.tmp 4)] [], none, false⟩,
    ⟨some 6, .makeMap, none, false⟩,
    ⟨none, .mapUpdate (.cell .str) (.tmp 6) (.const (.string ⟨#[42]⟩)) (.const (.string ⟨#[109, 117, 108]⟩)), none, false⟩,
    ⟨none, .mapUpdate (.cell .str) (.tmp 6) (.const (.string ⟨#[47]⟩)) (.const (.string ⟨#[100, 105, 118]⟩)), none, false⟩,
    ⟨none, .mapUpdate (.cell .str) (.tmp 6) (.const (.string ⟨#[37]⟩)) (.const (.string ⟨#[109, 111, 100]⟩)), none, false⟩,
    ⟨some 7, .mov (.tmp 6), none, false⟩,
    ⟨some 8, .call 120 [(.tmp 3), (.tmp 5), (.const (.bool false)), (.tmp 7)], none, false⟩,
    ⟨none, .storeL 4 (.tmp 2) (.tmp 8), none, false⟩] [2])
  .ret))⟩
/-- (*scribe/parse.parser).unary -/
def af154 : AFunc := ⟨1, [.cellL true 4 2],
  (.seq (.ops [
    ⟨some 2, .allocL 0 [.str [], .str [], .int .i64 0, .nilSlice], none, false⟩] [0, 2])
  (.seq (.seq (.ops [
    ⟨some 5, .makeMap, none, false⟩,
    ⟨none, .mapUpdate (.cell .str) (.tmp 5) (.const (.string ⟨#[33]⟩)) (.const (.string ⟨#[110, 111, 116]⟩)), none, false⟩,
    ⟨none, .mapUpdate (.cell .str) (.tmp 5) (.const (.string ⟨#[45]⟩)) (.const (.string ⟨#[110, 101, 103]⟩)), none, false⟩,
    ⟨none, .mapUpdate (.cell .str) (.tmp 5) (.const (.string ⟨#[43]⟩)) (.const (.string ⟨#[112, 108, 117, 115]⟩)), none, false⟩,
    ⟨some 6, .mov (.tmp 5), none, false⟩,
    ⟨some 7, .range (.tmp 6), none, false⟩] [0, 2, 7])
  (.mblock 0 7 100 [0, 2]
  (.loop [0, 2, 7]
    (.seq (.ops [
        ⟨some 8, .next (.tmp 7), none, false⟩,
        ⟨some 9, .extract (.tmp 8) 0, none, false⟩] [0, 2, 7, 9])
      (.seq (.cond (.tmp 9)
      .skip
      (.exit 0))
      (.block 1
      (.seq (.ops [
          ⟨some 10, .entry (.tmp 7), none, false⟩,
          ⟨some 11, .extract (.tmp 10) 0, none, false⟩,
          ⟨some 12, .extract (.tmp 10) 1, none, false⟩,
          ⟨some 3, .mov (.tmp 11), none, false⟩,
          ⟨some 4, .mov (.tmp 12), none, false⟩] [0, 2, 3, 4, 7])
        (.seq (.ops [
          ⟨some 13, .mov (.tmp 0), none, false⟩,
          ⟨some 14, .mov (.tmp 3), none, false⟩,
          ⟨some 15, .call 49 [(.tmp 13), (.tmp 14)], none, false⟩] [0, 2, 4, 7, 15])
        (.cond (.tmp 15)
        (.seq (.ops [
            ⟨some 16, .mov (.tmp 0), none, false⟩,
            ⟨some 17, .call 90 [(.tmp 16)], none, false⟩] [0, 2, 4])
          (.seq (.ops [
            ⟨some 18, .mov (.tmp 0), none, false⟩,
            ⟨none, .defer 91 [(.tmp 18)], none, false⟩] [0, 2, 4])
          (.seq (.ops [
            ⟨some 19, .mov (.tmp 4), none, false⟩,
            ⟨some 20, .mov (.tmp 0), none, false⟩,
            ⟨some 21, .call 154 [(.tmp 20)], none, false⟩,
            ⟨some 22, .buildSlice true 25 4 1 [.str [], .str [], .int .i64 0, .nilSlice] [(0, (.tmp 21))], none, false⟩,
            ⟨some 23, .call 28 [(.tmp 19), (.tmp 22)], none, false⟩,
            ⟨none, .storeL 4 (.tmp 2) (.tmp 23), none, false⟩] [2])
          .ret)))
        .skip)))))))))
  (.seq (.ops [
    ⟨some 24, .mov (.tmp 0), none, false⟩,
    ⟨some 25, .call 155 [(.tmp 24)], none, false⟩,
    ⟨none, .storeL 4 (.tmp 2) (.tmp 25), none, false⟩] [2])
  .ret)))⟩
/-- (*scribe/parse.parser).post -/
def af155 : AFunc := ⟨1, [.cellL true 4 2],
  (.seq (.ops [
    ⟨some 2, .allocL 0 [.str [], .str [], .int .i64 0, .nilSlice], none, false⟩] [0, 2])
  (.seq (.seq (.ops [
    ⟨some 7, .buildSlice true 9 1 2 [.str []] [(0, (.const (.string ⟨#[43, 43]⟩))), (1, (.const (.string ⟨#[45, 45]⟩)))], none, false⟩,
    ⟨some 8, .len .slice (.tmp 7), none, false⟩,
    ⟨some 9, .mov (.const (.int .i64 0)), none, false⟩] [0, 2, 7, 8, 9])
  (.block 0
  (.loop [0, 2, 7, 8, 9]
    (.seq (.ops [
        ⟨some 10, .bin .lss (.tmp 9) (.tmp 8), none, false⟩] [0, 2, 7, 8, 9, 10])
      (.seq (.cond (.tmp 10)
      .skip
      (.exit 0))
      (.seq (.block 1
      (.seq (.ops [
          ⟨some 11, .indexAddr 1 (.tmp 7) (.tmp 9), none, false⟩,
          ⟨some 12, .load false 1 (.tmp 11), none, false⟩,
          ⟨some 4, .mov (.tmp 12), none, false⟩] [0, 2, 4, 7, 8, 9])
        (.seq (.seq (.ops [
          ⟨some 13, .mov (.tmp 0), none, false⟩,
          ⟨some 14, .mov (.tmp 4), none, false⟩,
          ⟨some 15, .call 49 [(.tmp 13), (.tmp 14)], none, false⟩,
          ⟨some 16, .un .not (.tmp 15), none, false⟩] [0, 2, 4, 7, 8, 9, 16])
        (.cond (.tmp 16)
        (.exit 1)
        .skip))
        (.seq (.seq (.ops [
          ⟨some 17, .mov (.tmp 0), none, false⟩,
          ⟨some 18, .call 156 [(.tmp 17)], none, false⟩,
          ⟨some 5, .allocL 0 [.str [], .str [], .int .i64 0, .nilSlice], none, false⟩,
          ⟨none, .storeL 4 (.tmp 5) (.tmp 18), none, false⟩] [0, 2, 4, 5])
        (.seq (.ops [
          ⟨some 19, .loadL true 4 (.tmp 5), none, false⟩,
          ⟨some 20, .call 93 [(.tmp 19)], none, false⟩] [0, 2, 4, 5, 20])
        (.cond (.tmp 20)
        (.seq (.ops [
            ⟨some 21, .makeMap, none, false⟩,
            ⟨none, .mapUpdate (.cell .str) (.tmp 21) (.const (.string ⟨#[43, 43]⟩)) (.const (.string ⟨#[112, 114, 101, 105, 110, 99]⟩)), none, false⟩,
            ⟨none, .mapUpdate (.cell .str) (.tmp 21) (.const (.string ⟨#[45, 45]⟩)) (.const (.string ⟨#[112, 114, 101, 100, 101, 99]⟩)), none, false⟩,
            ⟨some 22, .mov (.tmp 21), none, false⟩,
            ⟨some 23, .mov (.tmp 4), none, false⟩,
            ⟨some 24, .lookup (.cell .str) (.str []) False (.tmp 22) (.tmp 23), none, false⟩,
            ⟨some 25, .loadL true 4 (.tmp 5), none, false⟩,
            ⟨some 26, .buildSlice true 25 4 1 [.str [], .str [], .int .i64 0, .nilSlice] [(0, (.tmp 25))], none, false⟩,
            ⟨some 27, .call 28 [(.tmp 24), (.tmp 26)], none, false⟩,
            ⟨none, .storeL 4 (.tmp 2) (.tmp 27), none, false⟩] [2])
          .ret)
        .skip)))
        (.seq (.ops [
          ⟨some 28, .mov (.tmp 0), none, false⟩,
          ⟨some 29, .call 56 [(.tmp 28)], none, false⟩] [2])
        (.seq (.ops [
          ⟨some 30, .build [.str [], .str [], .int .i64 0, .nilSlice] [], none, false⟩,
          ⟨none, .storeL 4 (.tmp 2) (.tmp 30), none, false⟩] [2])
        .ret))))))
      (.ops [
        ⟨some 31, .bin .add (.tmp 9) (.const (.int .i64 1)), none, false⟩,
        ⟨some 9, .mov (.tmp 31), none, false⟩] [0, 2, 7, 8, 9])))))))
  (.seq (.ops [
    ⟨some 32, .mov (.tmp 0), none, false⟩,
    ⟨some 33, .call 156 [(.tmp 32)], none, false⟩,
    ⟨some 6, .allocL 0 [.str [], .str [], .int .i64 0, .nilSlice], none, false⟩,
    ⟨none, .storeL 4 (.tmp 6) (.tmp 33), none, false⟩] [0, 2, 6])
  (.seq (.seq (.ops [
    ⟨some 34, .loadL true 4 (.tmp 6), none, false⟩,
    ⟨some 35, .call 93 [(.tmp 34)], none, false⟩,
    ⟨some 36, .un .not (.tmp 35), none, false⟩] [0, 2, 6, 36])
  (.cond (.tmp 36)
  (.seq (.ops [
      ⟨some 37, .loadL true 4 (.tmp 6), none, false⟩,
      ⟨none, .storeL 4 (.tmp 2) (.tmp 37), none, false⟩] [2])
    .ret)
  .skip))
  (.seq (.seq (.ops [
    ⟨some 38, .mov (.tmp 0), none, false⟩,
    ⟨some 39, .call 49 [(.tmp 38), (.const (.string ⟨#[43, 43]⟩))], none, false⟩] [0, 2, 6, 39])
  (.cond (.tmp 39)
  (.seq (.ops [
      ⟨some 40, .loadL true 4 (.tmp 6), none, false⟩,
      ⟨some 41, .buildSlice true 25 4 1 [.str [], .str [], .int .i64 0, .nilSlice] [(0, (.tmp 40))], none, false⟩,
      ⟨some 42, .call 28 [(.const (.string ⟨#[112, 111, 115, 116, 105, 110, 99]⟩)), (.tmp 41)], none, false⟩,
      ⟨none, .storeL 4 (.tmp 2) (.tmp 42), none, false⟩] [2])
    .ret)
  .skip))
  (.seq (.seq (.ops [
    ⟨some 43, .mov (.tmp 0), none, false⟩,
    ⟨some 44, .call 49 [(.tmp 43), (.const (.string ⟨#[45, 45]⟩))], none, false⟩] [2, 6, 44])
  (.cond (.tmp 44)
  (.seq (.ops [
      ⟨some 45, .loadL true 4 (.tmp 6), none, false⟩,
      ⟨some 46, .buildSlice true 25 4 1 [.str [], .str [], .int .i64 0, .nilSlice] [(0, (.tmp 45))], none, false⟩,
      ⟨some 47, .call 28 [(.const (.string ⟨#[112, 111, 115, 116, 100, 101, 99]⟩)), (.tmp 46)], none, false⟩,
      ⟨none, .storeL 4 (.tmp 2) (.tmp 47), none, false⟩] [2])
    .ret)
  .skip))
  (.seq (.ops [
    ⟨some 48, .loadL true 4 (.tmp 6), none, false⟩,
    ⟨none, .storeL 4 (.tmp 2) (.tmp 48), none, false⟩] [2])
  .ret)))))))⟩
/-- (*scribe/parse.parser).primary -/
def af156 : AFunc := ⟨1, [.cellL true 4 2],
  (.seq (.ops [
    ⟨some 2, .allocL 0 [.str [], .str [], .int .i64 0, .nilSlice], none, false⟩] [0, 2])
  (.seq (.ops [
    ⟨some 7, .mov (.tmp 0), none, false⟩,
    ⟨some 8, .call 30 [(.tmp 7)], none, false⟩,
    ⟨some 3, .allocL 0 [.int .i64 0, .str [], .int .i64 0], none, false⟩,
    ⟨none, .storeL 3 (.tmp 3) (.tmp 8), none, false⟩] [0, 2, 3])
  (.seq (.block 0
  (.seq (.ops [
      ⟨some 10, .fieldL 0 (.tmp 3), none, false⟩,
      ⟨some 11, .loadL false 1 (.tmp 10), none, false⟩,
      ⟨some 12, .bin .eql (.tmp 11) (.const (.int .i64 2)), none, false⟩,
      ⟨some 9, .mov (.tmp 12), none, false⟩] [0, 2, 3, 9])
    (.cond (.tmp 9)
    (.seq (.ops [
        ⟨some 13, .mov (.tmp 0), none, false⟩,
        ⟨some 14, .call 31 [(.tmp 13)], none, false⟩] [2, 3])
      (.seq (.ops [
        ⟨some 15, .loadL true 3 (.tmp 3), none, false⟩,
        ⟨some 16, .call 51 [(.const (.string ⟨#[110, 117, 109]⟩)), (.tmp 15), (.const (.slice none 0 0))], none, false⟩,
        ⟨none, .storeL 4 (.tmp 2) (.tmp 16), none, false⟩] [2])
      .ret))
    (.seq (.ops [
        ⟨some 18, .fieldL 0 (.tmp 3), none, false⟩,
        ⟨some 19, .loadL false 1 (.tmp 18), none, false⟩,
        ⟨some 20, .bin .eql (.tmp 19) (.const (.int .i64 3)), none, false⟩,
        ⟨some 17, .mov (.tmp 20), none, false⟩] [0, 2, 3, 17])
      (.cond (.tmp 17)
      (.seq (.ops [
          ⟨some 21, .mov (.tmp 0), none, false⟩,
          ⟨some 22, .call 31 [(.tmp 21)], none, false⟩] [2, 3])
        (.seq (.ops [
          ⟨some 23, .loadL true 3 (.tmp 3), none, false⟩,
          ⟨some 24, .call 51 [(.const (.string ⟨#[115, 116, 114]⟩)), (.tmp 23), (.const (.slice none 0 0))], none, false⟩,
          ⟨none, .storeL 4 (.tmp 2) (.tmp 24), none, false⟩] [2])
        .ret))
      (.seq (.ops [
          ⟨some 26, .fieldL 0 (.tmp 3), none, false⟩,
          ⟨some 27, .loadL false 1 (.tmp 26), none, false⟩,
          ⟨some 28, .bin .eql (.tmp 27) (.const (.int .i64 4)), none, false⟩,
          ⟨some 25, .mov (.tmp 28), none, false⟩] [0, 2, 3, 25])
        (.cond (.tmp 25)
        (.seq (.seq (.ops [
            ⟨some 30, .fieldL 1 (.tmp 3), none, false⟩,
            ⟨some 31, .loadL false 1 (.tmp 30), none, false⟩,
            ⟨some 32, .call 157 [(.tmp 31)], none, false⟩,
            ⟨some 29, .mov (.tmp 32), none, false⟩,
            ⟨some 33, .extract (.tmp 29) 0, none, false⟩,
            ⟨some 34, .extract (.tmp 29) 1, none, false⟩,
            ⟨some 35, .extract (.tmp 29) 2, none, false⟩,
            ⟨some 4, .allocL 0 [.int .i64 0, .int .u64 0, .int .u64 0, .int .u64 0, .int .u64 0, .nilSlice], none, false⟩,
            ⟨none, .storeL 6 (.tmp 4) (.tmp 33), none, false⟩,
            ⟨some 5, .mov (.tmp 34), none, false⟩,
            ⟨some 6, .mov (.tmp 35), none, false⟩] [0, 2, 3, 6])
          (.seq (.ops [
            ⟨some 36, .mov (.tmp 6), none, false⟩,
            ⟨some 37, .bin .neq (.tmp 36) (.const (.int .i64 0)), none, false⟩] [0, 2, 3, 37])
          (.cond (.tmp 37)
          (.ops [
              ⟨some 38, .mov (.tmp 0), none, false⟩,
              ⟨some 39, .call 56 [(.tmp 38)], none, false⟩] [0, 2, 3])
          .skip)))
          (.seq (.ops [
            ⟨some 40, .mov (.tmp 0), none, false⟩,
            ⟨some 41, .call 31 [(.tmp 40)], none, false⟩] [2, 3])
          (.seq (.ops [
            ⟨some 42, .loadL true 3 (.tmp 3), none, false⟩,
            ⟨some 43, .call 51 [(.const (.string ⟨#[114, 101]⟩)), (.tmp 42), (.const (.slice none 0 0))], none, false⟩,
            ⟨none, .storeL 4 (.tmp 2) (.tmp 43), none, false⟩] [2])
          .ret)))
        (.seq (.ops [
            ⟨some 45, .fieldL 0 (.tmp 3), none, false⟩,
            ⟨some 46, .loadL false 1 (.tmp 45), none, false⟩,
            ⟨some 47, .bin .eql (.tmp 46) (.const (.int .i64 5)), none, false⟩,
            ⟨some 44, .mov (.tmp 47), none, false⟩] [0, 2, 3, 44])
          (.cond (.tmp 44)
          (.seq (.ops [
              ⟨some 48, .mov (.tmp 0), none, false⟩,
              ⟨some 49, .call 31 [(.tmp 48)], none, false⟩] [0, 2, 3])
            (.seq (.seq (.ops [
              ⟨some 50, .mov (.tmp 0), none, false⟩,
              ⟨some 51, .call 49 [(.tmp 50), (.const (.string ⟨#[91]⟩))], none, false⟩] [0, 2, 3, 51])
            (.cond (.tmp 51)
            (.seq (.opsD [
                (⟨some 52, .loadL true 3 (.tmp 3), none, false⟩, []),
                (⟨some 53, .mov (.tmp 0), none, false⟩, []),
                (⟨some 54, .call 114 [(.tmp 53), (.const (.string ⟨#[93]⟩))], none, false⟩, []),
                (⟨some 55, .buildSlice true 25 4 1 [.str [], .str [], .int .i64 0, .nilSlice] [(0, (.tmp 54))], none, false⟩, []),
                (⟨some 56, .call 51 [(.const (.string ⟨#[105, 110, 100, 101, 120]⟩)), (.tmp 52), (.tmp 55)], none, false⟩, []),
                (⟨none, .storeL 4 (.tmp 2) (.tmp 56), none, false⟩, [])] [2])
              .ret)
            .skip))
            (.seq (.ops [
              ⟨some 57, .loadL true 3 (.tmp 3), none, false⟩,
              ⟨some 58, .call 51 [(.const (.string ⟨#[118, 97, 114]⟩)), (.tmp 57), (.const (.slice none 0 0))], none, false⟩,
              ⟨none, .storeL 4 (.tmp 2) (.tmp 58), none, false⟩] [2])
            .ret)))
          (.seq (.ops [
              ⟨some 60, .fieldL 0 (.tmp 3), none, false⟩,
              ⟨some 61, .loadL false 1 (.tmp 60), none, false⟩,
              ⟨some 62, .bin .eql (.tmp 61) (.const (.int .i64 6)), none, false⟩,
              ⟨some 59, .mov (.tmp 62), none, false⟩] [0, 2, 3, 59])
            (.cond (.tmp 59)
            (.seq (.ops [
                ⟨some 63, .mov (.tmp 0), none, false⟩,
                ⟨some 64, .call 31 [(.tmp 63)], none, false⟩] [0, 2, 3])
              (.seq (.ops [
                ⟨some 65, .mov (.tmp 0), none, false⟩,
                ⟨some 66, .call 53 [(.tmp 65), (.const (.string ⟨#[40]⟩))], none, false⟩] [0, 2, 3])
              (.seq (.opsD [
                (⟨some 67, .loadL true 3 (.tmp 3), none, false⟩, []),
                (⟨some 68, .mov (.tmp 0), none, false⟩, []),
                (⟨some 69, .call 144 [(.tmp 68), (.const (.string ⟨#[41]⟩))], none, false⟩, []),
                (⟨some 70, .call 51 [(.const (.string ⟨#[99, 97, 108, 108]⟩)), (.tmp 67), (.tmp 69)], none, false⟩, []),
                (⟨none, .storeL 4 (.tmp 2) (.tmp 70), none, false⟩, [])] [2])
              .ret)))
            (.seq (.ops [
                ⟨some 72, .fieldL 0 (.tmp 3), none, false⟩,
                ⟨some 73, .loadL false 1 (.tmp 72), none, false⟩,
                ⟨some 74, .bin .eql (.tmp 73) (.const (.int .i64 9)), none, false⟩,
                ⟨some 71, .mov (.tmp 74), none, false⟩] [0, 2, 71])
              (.cond (.tmp 71)
              (.seq (.ops [
                  ⟨some 75, .mov (.tmp 0), none, false⟩,
                  ⟨some 76, .call 158 [(.tmp 75)], none, false⟩,
                  ⟨none, .storeL 4 (.tmp 2) (.tmp 76), none, false⟩] [2])
                .ret)
              (.seq (.ops [
                  ⟨some 78, .mov (.tmp 0), none, false⟩,
                  ⟨some 79, .call 49 [(.tmp 78), (.const (.string ⟨#[40]⟩))], none, false⟩,
                  ⟨some 77, .mov (.tmp 79), none, false⟩] [0, 2, 77])
                (.cond (.tmp 77)
                (.seq (.ops [
                    ⟨some 80, .mov (.tmp 0), none, false⟩,
                    ⟨some 81, .call 114 [(.tmp 80), (.const (.string ⟨#[41]⟩))], none, false⟩,
                    ⟨none, .storeL 4 (.tmp 2) (.tmp 81), none, false⟩] [2])
                  .ret)
                (.seq (.ops [
                    ⟨some 83, .mov (.tmp 0), none, false⟩,
                    ⟨some 84, .call 49 [(.tmp 83), (.const (.string ⟨#[36]⟩))], none, false⟩,
                    ⟨some 82, .mov (.tmp 84), none, false⟩] [0, 2, 82])
                  (.cond (.tmp 82)
                  (.seq (.ops [
                      ⟨some 85, .mov (.tmp 0), none, false⟩,
                      ⟨some 86, .call 90 [(.tmp 85)], none, false⟩] [0, 2])
                    (.seq (.ops [
                      ⟨some 87, .mov (.tmp 0), none, false⟩,
                      ⟨none, .defer 91 [(.tmp 87)], none, false⟩] [0, 2])
                    (.seq (.seq (.ops [
                      ⟨some 88, .mov (.tmp 0), none, false⟩,
                      ⟨some 89, .buildSlice true 9 1 2 [.str []] [(0, (.const (.string ⟨#[43, 43]⟩))), (1, (.const (.string ⟨#[45, 45]⟩)))], none, false⟩,
                      ⟨some 90, .call 29 [(.tmp 88), (.tmp 89)], none, false⟩] [0, 2, 90])
                    (.cond (.tmp 90)
                    (.seq (.ops [
                        ⟨some 91, .mov (.tmp 0), none, false⟩,
                        ⟨some 92, .call 155 [(.tmp 91)], none, false⟩,
                        ⟨some 93, .buildSlice true 25 4 1 [.str [], .str [], .int .i64 0, .nilSlice] [(0, (.tmp 92))], none, false⟩,
                        ⟨some 94, .call 28 [(.const (.string ⟨#[102, 105, 101, 108, 100]⟩)), (.tmp 93)], none, false⟩,
                        ⟨none, .storeL 4 (.tmp 2) (.tmp 94), none, false⟩] [2])
                      .ret)
                    .skip))
                    (.seq (.ops [
                      ⟨some 95, .mov (.tmp 0), none, false⟩,
                      ⟨some 96, .call 156 [(.tmp 95)], none, false⟩,
                      ⟨some 97, .buildSlice true 25 4 1 [.str [], .str [], .int .i64 0, .nilSlice] [(0, (.tmp 96))], none, false⟩,
                      ⟨some 98, .call 28 [(.const (.string ⟨#[102, 105, 101, 108, 100]⟩)), (.tmp 97)], none, false⟩,
                      ⟨none, .storeL 4 (.tmp 2) (.tmp 98), none, false⟩] [2])
                    .ret))))
                  .skip)))))))))))))))))
  (.seq (.ops [
    ⟨some 99, .mov (.tmp 0), none, false⟩,
    ⟨some 100, .call 56 [(.tmp 99)], none, false⟩] [2])
  (.seq (.ops [
    ⟨some 101, .build [.str [], .str [], .int .i64 0, .nilSlice] [], none, false⟩,
    ⟨none, .storeL 4 (.tmp 2) (.tmp 101), none, false⟩] [2])
  .ret)))))⟩
/-- scribe/regex.Parse -/
def af157 : AFunc := ⟨1, [.cellL true 6 2, .tmp 3, .tmp 4],
  (.seq (.ops [
    ⟨some 2, .allocL 0 [.int .i64 0, .int .u64 0, .int .u64 0, .int .u64 0, .int .u64 0, .nilSlice], none, false⟩,
    ⟨some 3, .mov (.const (.int .i64 0)), none, false⟩,
    ⟨some 4, .mov (.const (.int .i64 0)), none, false⟩] [0, 2])
  (.seq (.seq (.ops [
    ⟨some 7, .mov (.tmp 0), none, false⟩,
    ⟨some 8, .len .str (.tmp 7), none, false⟩,
    ⟨some 9, .bin .gtr (.tmp 8) (.const (.int .i64 300)), none, false⟩] [0, 2, 9])
  (.cond (.tmp 9)
  (.seq (.ops [
      ⟨some 10, .build [.int .i64 0, .int .u64 0, .int .u64 0, .int .u64 0, .int .u64 0, .nilSlice] [], none, false⟩,
      ⟨none, .storeL 6 (.tmp 2) (.tmp 10), none, false⟩,
      ⟨some 3, .mov (.const (.int .i64 0)), none, false⟩,
      ⟨some 4, .mov (.const (.int .i64 12)), none, false⟩] [2, 3, 4])
    .ret)
  .skip))
  (.seq (.ops [
    ⟨some 11, .mov (.tmp 0), none, false⟩,
    ⟨some 12, .build [.str [], .int .i64 0, .int .i64 0, .int .i64 0, .int .i64 0] [(0, 1, (.tmp 11))], none, false⟩,
    ⟨some 13, .boxH 221 5 (.tmp 12), none, false⟩,
    ⟨some 5, .mov (.tmp 13), none, false⟩] [2, 5])
  (.seq (.ops [
    ⟨some 14, .mov (.tmp 5), none, false⟩,
    ⟨some 15, .call 159 [(.tmp 14)], none, false⟩,
    ⟨some 6, .allocL 0 [.int .i64 0, .int .u64 0, .int .u64 0, .int .u64 0, .int .u64 0, .nilSlice], none, false⟩,
    ⟨none, .storeL 6 (.tmp 6) (.tmp 15), none, false⟩] [2, 5, 6])
  (.seq (.seq (.ops [
    ⟨some 16, .mov (.tmp 5), none, false⟩,
    ⟨some 17, .nilCheck (.tmp 16), none, false⟩,
    ⟨some 18, .fieldAddr 3 (.tmp 17), none, false⟩,
    ⟨some 19, .load false 1 (.tmp 18), none, false⟩,
    ⟨some 20, .bin .neq (.tmp 19) (.const (.int .i64 0)), none, false⟩] [2, 5, 6, 20])
  (.cond (.tmp 20)
  (.seq (.opsD [
      (⟨some 21, .build [.int .i64 0, .int .u64 0, .int .u64 0, .int .u64 0, .int .u64 0, .nilSlice] [], none, false⟩, []),
      (⟨some 22, .mov (.tmp 5), none, false⟩, []),
      (⟨some 23, .nilCheck (.tmp 22), none, false⟩, []),
      (⟨some 24, .fieldAddr 4 (.tmp 23), none, false⟩, []),
      (⟨some 25, .load false 1 (.tmp 24), none, false⟩, []),
      (⟨some 26, .mov (.tmp 5), none, false⟩, []),
      (⟨some 27, .nilCheck (.tmp 26), none, false⟩, []),
      (⟨some 28, .fieldAddr 3 (.tmp 27), none, false⟩, []),
      (⟨some 29, .load false 1 (.tmp 28), none, false⟩, []),
      (⟨none, .storeL 6 (.tmp 2) (.tmp 21), none, false⟩, []),
      (⟨some 3, .mov (.tmp 25), none, false⟩, []),
      (⟨some 4, .mov (.tmp 29), none, false⟩, [])] [2, 3, 4])
    .ret)
  .skip))
  (.seq (.ops [
    ⟨some 30, .loadL true 6 (.tmp 6), none, false⟩,
    ⟨none, .storeL 6 (.tmp 2) (.tmp 30), none, false⟩,
    ⟨some 3, .mov (.const (.int .i64 0)), none, false⟩,
    ⟨some 4, .mov (.const (.int .i64 0)), none, false⟩] [2, 3, 4])
  .ret))))))⟩
end Go.Proofs.YtjbkcboklccmeaaGreatDoor.Abs.R1
