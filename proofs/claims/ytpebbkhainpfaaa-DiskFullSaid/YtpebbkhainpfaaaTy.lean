/- Closed facts on the types of this translation, written by a program of this claim; each is decided by the kernel. -/
import Derived.Test.YtpebbkhainpfaaaProg
import Derived.Test.YtpebbkhainpfaaaHlMap
namespace Go.Proofs.Ytpebbkhainpfaaa
open Go Go.HL
theorem mixed : Go.Proofs.Try.prog.follows .mixedOrders = true := by kernel_rfl
namespace T
theorem ag2 : agB Go.Proofs.Try.prog 2 = some false := by kernel_rfl
theorem sz2 : szB Go.Proofs.Try.prog 2 = some 1 := by kernel_rfl
theorem by2 : byB Go.Proofs.Try.prog 2 = some 8 := by kernel_rfl
theorem zr2 : zrB Go.Proofs.Try.prog 2 = some (.int .i64 0) := by kernel_rfl
theorem in2 : inB Go.Proofs.Try.prog 2 = some .i64 := by kernel_rfl
theorem ag3 : agB Go.Proofs.Try.prog 3 = some false := by kernel_rfl
theorem sz3 : szB Go.Proofs.Try.prog 3 = some 1 := by kernel_rfl
theorem by3 : byB Go.Proofs.Try.prog 3 = some 8 := by kernel_rfl
theorem zr3 : zrB Go.Proofs.Try.prog 3 = some (.int .i64 0) := by kernel_rfl
theorem in3 : inB Go.Proofs.Try.prog 3 = some .i64 := by kernel_rfl
theorem ag4 : agB Go.Proofs.Try.prog 4 = some false := by kernel_rfl
theorem sz4 : szB Go.Proofs.Try.prog 4 = some 1 := by kernel_rfl
theorem by4 : byB Go.Proofs.Try.prog 4 = some 1 := by kernel_rfl
theorem zr4 : zrB Go.Proofs.Try.prog 4 = some (.bool false) := by kernel_rfl
theorem bo4 : boB Go.Proofs.Try.prog 4 = true := by kernel_rfl
theorem ag5 : agB Go.Proofs.Try.prog 5 = some false := by kernel_rfl
theorem sz5 : szB Go.Proofs.Try.prog 5 = some 1 := by kernel_rfl
theorem by5 : byB Go.Proofs.Try.prog 5 = some 1 := by kernel_rfl
theorem zr5 : zrB Go.Proofs.Try.prog 5 = some (.int .u8 0) := by kernel_rfl
theorem in5 : inB Go.Proofs.Try.prog 5 = some .u8 := by kernel_rfl
theorem ag6 : agB Go.Proofs.Try.prog 6 = some false := by kernel_rfl
theorem sz6 : szB Go.Proofs.Try.prog 6 = some 1 := by kernel_rfl
theorem by6 : byB Go.Proofs.Try.prog 6 = some 1 := by kernel_rfl
theorem zr6 : zrB Go.Proofs.Try.prog 6 = some (.int .u8 0) := by kernel_rfl
theorem in6 : inB Go.Proofs.Try.prog 6 = some .u8 := by kernel_rfl
theorem ag7 : agB Go.Proofs.Try.prog 7 = some true := by kernel_rfl
theorem sz7 : szB Go.Proofs.Try.prog 7 = some 4 := by kernel_rfl
theorem by7 : byB Go.Proofs.Try.prog 7 = some 24 := by kernel_rfl
theorem zr7 : zrB Go.Proofs.Try.prog 7 = some (.agg #[(.int .i64 0), (.int .i64 0), (.bool false), (.int .u8 0)]) := by kernel_rfl
theorem pl7 : V.plB Go.Proofs.Try.prog 7 = some [(0, 1), (1, 1), (2, 1), (3, 1)] := by kernel_rfl
theorem fd7_0 : fdB Go.Proofs.Try.prog 7 0 = some (0, 2, 0 + 1) := by kernel_rfl
theorem fd7_1 : fdB Go.Proofs.Try.prog 7 1 = some (1, 3, 0 + 1) := by kernel_rfl
theorem fd7_2 : fdB Go.Proofs.Try.prog 7 2 = some (2, 4, 0 + 1) := by kernel_rfl
theorem fd7_3 : fdB Go.Proofs.Try.prog 7 3 = some (3, 6, 0 + 1) := by kernel_rfl
theorem ag8 : agB Go.Proofs.Try.prog 8 = some true := by kernel_rfl
theorem sz8 : szB Go.Proofs.Try.prog 8 = some 4 := by kernel_rfl
theorem by8 : byB Go.Proofs.Try.prog 8 = some 24 := by kernel_rfl
theorem zr8 : zrB Go.Proofs.Try.prog 8 = some (.agg #[(.int .i64 0), (.int .i64 0), (.bool false), (.int .u8 0)]) := by kernel_rfl
theorem pl8 : V.plB Go.Proofs.Try.prog 8 = some [(0, 1), (1, 1), (2, 1), (3, 1)] := by kernel_rfl
theorem fd8_0 : fdB Go.Proofs.Try.prog 8 0 = some (0, 2, 0 + 1) := by kernel_rfl
theorem fd8_1 : fdB Go.Proofs.Try.prog 8 1 = some (1, 3, 0 + 1) := by kernel_rfl
theorem fd8_2 : fdB Go.Proofs.Try.prog 8 2 = some (2, 4, 0 + 1) := by kernel_rfl
theorem fd8_3 : fdB Go.Proofs.Try.prog 8 3 = some (3, 6, 0 + 1) := by kernel_rfl
theorem ag9 : agB Go.Proofs.Try.prog 9 = some false := by kernel_rfl
theorem sz9 : szB Go.Proofs.Try.prog 9 = some 1 := by kernel_rfl
theorem by9 : byB Go.Proofs.Try.prog 9 = some 16 := by kernel_rfl
theorem zr9 : zrB Go.Proofs.Try.prog 9 = some (.string ByteArray.empty) := by kernel_rfl
theorem st9 : stB Go.Proofs.Try.prog 9 = true := by kernel_rfl
theorem ag10 : agB Go.Proofs.Try.prog 10 = some false := by kernel_rfl
theorem sz10 : szB Go.Proofs.Try.prog 10 = some 1 := by kernel_rfl
theorem by10 : byB Go.Proofs.Try.prog 10 = some 16 := by kernel_rfl
theorem zr10 : zrB Go.Proofs.Try.prog 10 = some (.string ByteArray.empty) := by kernel_rfl
theorem st10 : stB Go.Proofs.Try.prog 10 = true := by kernel_rfl
theorem ag11 : agB Go.Proofs.Try.prog 11 = some false := by kernel_rfl
theorem sz11 : szB Go.Proofs.Try.prog 11 = some 1 := by kernel_rfl
theorem by11 : byB Go.Proofs.Try.prog 11 = some 16 := by kernel_rfl
theorem zr11 : zrB Go.Proofs.Try.prog 11 = some (.string ByteArray.empty) := by kernel_rfl
theorem st11 : stB Go.Proofs.Try.prog 11 = true := by kernel_rfl
theorem ag12 : agB Go.Proofs.Try.prog 12 = some false := by kernel_rfl
theorem sz12 : szB Go.Proofs.Try.prog 12 = some 1 := by kernel_rfl
theorem by12 : byB Go.Proofs.Try.prog 12 = some 8 := by kernel_rfl
theorem zr12 : zrB Go.Proofs.Try.prog 12 = some (.int .u64 0) := by kernel_rfl
theorem in12 : inB Go.Proofs.Try.prog 12 = some .u64 := by kernel_rfl
theorem ag13 : agB Go.Proofs.Try.prog 13 = some true := by kernel_rfl
theorem sz13 : szB Go.Proofs.Try.prog 13 = some 2 := by kernel_rfl
theorem by13 : byB Go.Proofs.Try.prog 13 = some 24 := by kernel_rfl
theorem zr13 : zrB Go.Proofs.Try.prog 13 = some (.agg #[(.string ByteArray.empty), (.int .u64 0)]) := by kernel_rfl
theorem pl13 : V.plB Go.Proofs.Try.prog 13 = some [(0, 1), (1, 1)] := by kernel_rfl
theorem fd13_0 : fdB Go.Proofs.Try.prog 13 0 = some (0, 9, 0 + 1) := by kernel_rfl
theorem fd13_1 : fdB Go.Proofs.Try.prog 13 1 = some (1, 12, 0 + 1) := by kernel_rfl
theorem ag14 : agB Go.Proofs.Try.prog 14 = some true := by kernel_rfl
theorem sz14 : szB Go.Proofs.Try.prog 14 = some 2 := by kernel_rfl
theorem by14 : byB Go.Proofs.Try.prog 14 = some 24 := by kernel_rfl
theorem zr14 : zrB Go.Proofs.Try.prog 14 = some (.agg #[(.string ByteArray.empty), (.int .u64 0)]) := by kernel_rfl
theorem pl14 : V.plB Go.Proofs.Try.prog 14 = some [(0, 1), (1, 1)] := by kernel_rfl
theorem fd14_0 : fdB Go.Proofs.Try.prog 14 0 = some (0, 9, 0 + 1) := by kernel_rfl
theorem fd14_1 : fdB Go.Proofs.Try.prog 14 1 = some (1, 12, 0 + 1) := by kernel_rfl
theorem ag15 : agB Go.Proofs.Try.prog 15 = some false := by kernel_rfl
theorem sz15 : szB Go.Proofs.Try.prog 15 = some 1 := by kernel_rfl
theorem by15 : byB Go.Proofs.Try.prog 15 = some 8 := by kernel_rfl
theorem zr15 : zrB Go.Proofs.Try.prog 15 = some (.pointer none) := by kernel_rfl
theorem pt15 : ptB Go.Proofs.Try.prog 15 = some 205 := by kernel_rfl
theorem ag16 : agB Go.Proofs.Try.prog 16 = some false := by kernel_rfl
theorem sz16 : szB Go.Proofs.Try.prog 16 = some 1 := by kernel_rfl
theorem by16 : byB Go.Proofs.Try.prog 16 = some 8 := by kernel_rfl
theorem zr16 : zrB Go.Proofs.Try.prog 16 = some (.pointer none) := by kernel_rfl
theorem pt16 : ptB Go.Proofs.Try.prog 16 = some 208 := by kernel_rfl
theorem ag17 : agB Go.Proofs.Try.prog 17 = some false := by kernel_rfl
theorem sz17 : szB Go.Proofs.Try.prog 17 = some 1 := by kernel_rfl
theorem by17 : byB Go.Proofs.Try.prog 17 = some 8 := by kernel_rfl
theorem zr17 : zrB Go.Proofs.Try.prog 17 = some (.pointer none) := by kernel_rfl
theorem pt17 : ptB Go.Proofs.Try.prog 17 = some 216 := by kernel_rfl
theorem ag18 : agB Go.Proofs.Try.prog 18 = some true := by kernel_rfl
theorem sz18 : szB Go.Proofs.Try.prog 18 = some 1 := by kernel_rfl
theorem by18 : byB Go.Proofs.Try.prog 18 = some 8 := by kernel_rfl
theorem zr18 : zrB Go.Proofs.Try.prog 18 = some (.agg #[(.pointer none)]) := by kernel_rfl
theorem pl18 : V.plB Go.Proofs.Try.prog 18 = some [(0, 1)] := by kernel_rfl
theorem fd18_0 : fdB Go.Proofs.Try.prog 18 0 = some (0, 17, 0 + 1) := by kernel_rfl
theorem ag19 : agB Go.Proofs.Try.prog 19 = some true := by kernel_rfl
theorem sz19 : szB Go.Proofs.Try.prog 19 = some 1 := by kernel_rfl
theorem by19 : byB Go.Proofs.Try.prog 19 = some 8 := by kernel_rfl
theorem zr19 : zrB Go.Proofs.Try.prog 19 = some (.agg #[(.pointer none)]) := by kernel_rfl
theorem pl19 : V.plB Go.Proofs.Try.prog 19 = some [(0, 1)] := by kernel_rfl
theorem fd19_0 : fdB Go.Proofs.Try.prog 19 0 = some (0, 17, 0 + 1) := by kernel_rfl
theorem ag21 : agB Go.Proofs.Try.prog 21 = some false := by kernel_rfl
theorem sz21 : szB Go.Proofs.Try.prog 21 = some 1 := by kernel_rfl
theorem by21 : byB Go.Proofs.Try.prog 21 = some 4 := by kernel_rfl
theorem zr21 : zrB Go.Proofs.Try.prog 21 = some (.int .i32 0) := by kernel_rfl
theorem in21 : inB Go.Proofs.Try.prog 21 = some .i32 := by kernel_rfl
theorem ag22 : agB Go.Proofs.Try.prog 22 = some false := by kernel_rfl
theorem sz22 : szB Go.Proofs.Try.prog 22 = some 1 := by kernel_rfl
theorem by22 : byB Go.Proofs.Try.prog 22 = some 24 := by kernel_rfl
theorem zr22 : zrB Go.Proofs.Try.prog 22 = some (.slice none 0 0) := by kernel_rfl
theorem el22 : elB Go.Proofs.Try.prog 22 = some 5 := by kernel_rfl
theorem ag24 : agB Go.Proofs.Try.prog 24 = some false := by kernel_rfl
theorem sz24 : szB Go.Proofs.Try.prog 24 = some 1 := by kernel_rfl
theorem by24 : byB Go.Proofs.Try.prog 24 = some 24 := by kernel_rfl
theorem zr24 : zrB Go.Proofs.Try.prog 24 = some (.slice none 0 0) := by kernel_rfl
theorem el24 : elB Go.Proofs.Try.prog 24 = some 38 := by kernel_rfl
theorem ag25 : agB Go.Proofs.Try.prog 25 = some false := by kernel_rfl
theorem sz25 : szB Go.Proofs.Try.prog 25 = some 1 := by kernel_rfl
theorem by25 : byB Go.Proofs.Try.prog 25 = some 8 := by kernel_rfl
theorem zr25 : zrB Go.Proofs.Try.prog 25 = some (.int .u64 0) := by kernel_rfl
theorem in25 : inB Go.Proofs.Try.prog 25 = some .u64 := by kernel_rfl
theorem ag26 : agB Go.Proofs.Try.prog 26 = some false := by kernel_rfl
theorem sz26 : szB Go.Proofs.Try.prog 26 = some 1 := by kernel_rfl
theorem by26 : byB Go.Proofs.Try.prog 26 = some 8 := by kernel_rfl
theorem zr26 : zrB Go.Proofs.Try.prog 26 = some (.int .i64 0) := by kernel_rfl
theorem in26 : inB Go.Proofs.Try.prog 26 = some .i64 := by kernel_rfl
theorem ag37 : agB Go.Proofs.Try.prog 37 = some true := by kernel_rfl
theorem sz37 : szB Go.Proofs.Try.prog 37 = some 3 := by kernel_rfl
theorem by37 : byB Go.Proofs.Try.prog 37 = some 40 := by kernel_rfl
theorem zr37 : zrB Go.Proofs.Try.prog 37 = some (.agg #[(.int .i64 0), (.int .i64 0), (.slice none 0 0)]) := by kernel_rfl
theorem pl37 : V.plB Go.Proofs.Try.prog 37 = some [(0, 1), (1, 1), (2, 1)] := by kernel_rfl
theorem fd37_0 : fdB Go.Proofs.Try.prog 37 0 = some (0, 3, 0 + 1) := by kernel_rfl
theorem fd37_1 : fdB Go.Proofs.Try.prog 37 1 = some (1, 3, 0 + 1) := by kernel_rfl
theorem fd37_2 : fdB Go.Proofs.Try.prog 37 2 = some (2, 22, 0 + 1) := by kernel_rfl
theorem ag38 : agB Go.Proofs.Try.prog 38 = some true := by kernel_rfl
theorem sz38 : szB Go.Proofs.Try.prog 38 = some 3 := by kernel_rfl
theorem by38 : byB Go.Proofs.Try.prog 38 = some 40 := by kernel_rfl
theorem zr38 : zrB Go.Proofs.Try.prog 38 = some (.agg #[(.int .i64 0), (.int .i64 0), (.slice none 0 0)]) := by kernel_rfl
theorem pl38 : V.plB Go.Proofs.Try.prog 38 = some [(0, 1), (1, 1), (2, 1)] := by kernel_rfl
theorem fd38_0 : fdB Go.Proofs.Try.prog 38 0 = some (0, 3, 0 + 1) := by kernel_rfl
theorem fd38_1 : fdB Go.Proofs.Try.prog 38 1 = some (1, 3, 0 + 1) := by kernel_rfl
theorem fd38_2 : fdB Go.Proofs.Try.prog 38 2 = some (2, 22, 0 + 1) := by kernel_rfl
theorem ag49 : agB Go.Proofs.Try.prog 49 = some true := by kernel_rfl
theorem sz49 : szB Go.Proofs.Try.prog 49 = some 3 := by kernel_rfl
theorem by49 : byB Go.Proofs.Try.prog 49 = some 40 := by kernel_rfl
theorem zr49 : zrB Go.Proofs.Try.prog 49 = some (.agg #[(.int .i64 0), (.int .u64 0), (.slice none 0 0)]) := by kernel_rfl
theorem pl49 : V.plB Go.Proofs.Try.prog 49 = some [(0, 1), (1, 1), (2, 1)] := by kernel_rfl
theorem fd49_0 : fdB Go.Proofs.Try.prog 49 0 = some (0, 3, 0 + 1) := by kernel_rfl
theorem fd49_1 : fdB Go.Proofs.Try.prog 49 1 = some (1, 25, 0 + 1) := by kernel_rfl
theorem fd49_2 : fdB Go.Proofs.Try.prog 49 2 = some (2, 24, 0 + 1) := by kernel_rfl
theorem ag50 : agB Go.Proofs.Try.prog 50 = some true := by kernel_rfl
theorem sz50 : szB Go.Proofs.Try.prog 50 = some 3 := by kernel_rfl
theorem by50 : byB Go.Proofs.Try.prog 50 = some 40 := by kernel_rfl
theorem zr50 : zrB Go.Proofs.Try.prog 50 = some (.agg #[(.int .i64 0), (.int .u64 0), (.slice none 0 0)]) := by kernel_rfl
theorem pl50 : V.plB Go.Proofs.Try.prog 50 = some [(0, 1), (1, 1), (2, 1)] := by kernel_rfl
theorem fd50_0 : fdB Go.Proofs.Try.prog 50 0 = some (0, 3, 0 + 1) := by kernel_rfl
theorem fd50_1 : fdB Go.Proofs.Try.prog 50 1 = some (1, 25, 0 + 1) := by kernel_rfl
theorem fd50_2 : fdB Go.Proofs.Try.prog 50 2 = some (2, 24, 0 + 1) := by kernel_rfl
theorem ag57 : agB Go.Proofs.Try.prog 57 = some false := by kernel_rfl
theorem sz57 : szB Go.Proofs.Try.prog 57 = some 1 := by kernel_rfl
theorem by57 : byB Go.Proofs.Try.prog 57 = some 8 := by kernel_rfl
theorem zr57 : zrB Go.Proofs.Try.prog 57 = some (.pointer none) := by kernel_rfl
theorem pt57 : ptB Go.Proofs.Try.prog 57 = some 113 := by kernel_rfl
theorem ag65 : agB Go.Proofs.Try.prog 65 = some false := by kernel_rfl
theorem sz65 : szB Go.Proofs.Try.prog 65 = some 1 := by kernel_rfl
theorem by65 : byB Go.Proofs.Try.prog 65 = some 24 := by kernel_rfl
theorem zr65 : zrB Go.Proofs.Try.prog 65 = some (.slice none 0 0) := by kernel_rfl
theorem el65 : elB Go.Proofs.Try.prog 65 = some 73 := by kernel_rfl
theorem ag66 : agB Go.Proofs.Try.prog 66 = some false := by kernel_rfl
theorem sz66 : szB Go.Proofs.Try.prog 66 = some 1 := by kernel_rfl
theorem by66 : byB Go.Proofs.Try.prog 66 = some 24 := by kernel_rfl
theorem zr66 : zrB Go.Proofs.Try.prog 66 = some (.slice none 0 0) := by kernel_rfl
theorem el66 : elB Go.Proofs.Try.prog 66 = some 86 := by kernel_rfl
theorem ag67 : agB Go.Proofs.Try.prog 67 = some false := by kernel_rfl
theorem sz67 : szB Go.Proofs.Try.prog 67 = some 1 := by kernel_rfl
theorem by67 : byB Go.Proofs.Try.prog 67 = some 24 := by kernel_rfl
theorem zr67 : zrB Go.Proofs.Try.prog 67 = some (.slice none 0 0) := by kernel_rfl
theorem el67 : elB Go.Proofs.Try.prog 67 = some 152 := by kernel_rfl
theorem ag68 : agB Go.Proofs.Try.prog 68 = some true := by kernel_rfl
theorem sz68 : szB Go.Proofs.Try.prog 68 = some 6 := by kernel_rfl
theorem by68 : byB Go.Proofs.Try.prog 68 = some 96 := by kernel_rfl
theorem zr68 : zrB Go.Proofs.Try.prog 68 = some (.agg #[(.slice none 0 0), (.slice none 0 0), (.slice none 0 0), (.int .i64 0), (.bool false), (.int .i64 0)]) := by kernel_rfl
theorem pl68 : V.plB Go.Proofs.Try.prog 68 = some [(0, 1), (1, 1), (2, 1), (3, 1), (4, 1), (5, 1)] := by kernel_rfl
theorem fd68_0 : fdB Go.Proofs.Try.prog 68 0 = some (0, 66, 0 + 1) := by kernel_rfl
theorem fd68_1 : fdB Go.Proofs.Try.prog 68 1 = some (1, 66, 0 + 1) := by kernel_rfl
theorem fd68_2 : fdB Go.Proofs.Try.prog 68 2 = some (2, 67, 0 + 1) := by kernel_rfl
theorem fd68_3 : fdB Go.Proofs.Try.prog 68 3 = some (3, 3, 0 + 1) := by kernel_rfl
theorem fd68_4 : fdB Go.Proofs.Try.prog 68 4 = some (4, 4, 0 + 1) := by kernel_rfl
theorem fd68_5 : fdB Go.Proofs.Try.prog 68 5 = some (5, 3, 0 + 1) := by kernel_rfl
theorem ag69 : agB Go.Proofs.Try.prog 69 = some true := by kernel_rfl
theorem sz69 : szB Go.Proofs.Try.prog 69 = some 6 := by kernel_rfl
theorem by69 : byB Go.Proofs.Try.prog 69 = some 96 := by kernel_rfl
theorem zr69 : zrB Go.Proofs.Try.prog 69 = some (.agg #[(.slice none 0 0), (.slice none 0 0), (.slice none 0 0), (.int .i64 0), (.bool false), (.int .i64 0)]) := by kernel_rfl
theorem pl69 : V.plB Go.Proofs.Try.prog 69 = some [(0, 1), (1, 1), (2, 1), (3, 1), (4, 1), (5, 1)] := by kernel_rfl
theorem fd69_0 : fdB Go.Proofs.Try.prog 69 0 = some (0, 66, 0 + 1) := by kernel_rfl
theorem fd69_1 : fdB Go.Proofs.Try.prog 69 1 = some (1, 66, 0 + 1) := by kernel_rfl
theorem fd69_2 : fdB Go.Proofs.Try.prog 69 2 = some (2, 67, 0 + 1) := by kernel_rfl
theorem fd69_3 : fdB Go.Proofs.Try.prog 69 3 = some (3, 3, 0 + 1) := by kernel_rfl
theorem fd69_4 : fdB Go.Proofs.Try.prog 69 4 = some (4, 4, 0 + 1) := by kernel_rfl
theorem fd69_5 : fdB Go.Proofs.Try.prog 69 5 = some (5, 3, 0 + 1) := by kernel_rfl
theorem ag72 : agB Go.Proofs.Try.prog 72 = some true := by kernel_rfl
theorem sz72 : szB Go.Proofs.Try.prog 72 = some 5 := by kernel_rfl
theorem by72 : byB Go.Proofs.Try.prog 72 = some 64 := by kernel_rfl
theorem zr72 : zrB Go.Proofs.Try.prog 72 = some (.agg #[(.int .u8 0), (.string ByteArray.empty), (.int .i64 0), (.int .i64 0), (.slice none 0 0)]) := by kernel_rfl
theorem pl72 : V.plB Go.Proofs.Try.prog 72 = some [(0, 1), (1, 1), (2, 1), (3, 1), (4, 1)] := by kernel_rfl
theorem fd72_0 : fdB Go.Proofs.Try.prog 72 0 = some (0, 5, 0 + 1) := by kernel_rfl
theorem fd72_1 : fdB Go.Proofs.Try.prog 72 1 = some (1, 9, 0 + 1) := by kernel_rfl
theorem fd72_2 : fdB Go.Proofs.Try.prog 72 2 = some (2, 3, 0 + 1) := by kernel_rfl
theorem fd72_3 : fdB Go.Proofs.Try.prog 72 3 = some (3, 3, 0 + 1) := by kernel_rfl
theorem fd72_4 : fdB Go.Proofs.Try.prog 72 4 = some (4, 22, 0 + 1) := by kernel_rfl
theorem ag73 : agB Go.Proofs.Try.prog 73 = some true := by kernel_rfl
theorem sz73 : szB Go.Proofs.Try.prog 73 = some 5 := by kernel_rfl
theorem by73 : byB Go.Proofs.Try.prog 73 = some 64 := by kernel_rfl
theorem zr73 : zrB Go.Proofs.Try.prog 73 = some (.agg #[(.int .u8 0), (.string ByteArray.empty), (.int .i64 0), (.int .i64 0), (.slice none 0 0)]) := by kernel_rfl
theorem pl73 : V.plB Go.Proofs.Try.prog 73 = some [(0, 1), (1, 1), (2, 1), (3, 1), (4, 1)] := by kernel_rfl
theorem fd73_0 : fdB Go.Proofs.Try.prog 73 0 = some (0, 5, 0 + 1) := by kernel_rfl
theorem fd73_1 : fdB Go.Proofs.Try.prog 73 1 = some (1, 9, 0 + 1) := by kernel_rfl
theorem fd73_2 : fdB Go.Proofs.Try.prog 73 2 = some (2, 3, 0 + 1) := by kernel_rfl
theorem fd73_3 : fdB Go.Proofs.Try.prog 73 3 = some (3, 3, 0 + 1) := by kernel_rfl
theorem fd73_4 : fdB Go.Proofs.Try.prog 73 4 = some (4, 22, 0 + 1) := by kernel_rfl
theorem ag82 : agB Go.Proofs.Try.prog 82 = some false := by kernel_rfl
theorem sz82 : szB Go.Proofs.Try.prog 82 = some 1 := by kernel_rfl
theorem by82 : byB Go.Proofs.Try.prog 82 = some 24 := by kernel_rfl
theorem zr82 : zrB Go.Proofs.Try.prog 82 = some (.slice none 0 0) := by kernel_rfl
theorem el82 : elB Go.Proofs.Try.prog 82 = some 9 := by kernel_rfl
theorem ag85 : agB Go.Proofs.Try.prog 85 = some true := by kernel_rfl
theorem sz85 : szB Go.Proofs.Try.prog 85 = some 2 := by kernel_rfl
theorem by85 : byB Go.Proofs.Try.prog 85 = some 40 := by kernel_rfl
theorem zr85 : zrB Go.Proofs.Try.prog 85 = some (.agg #[(.string ByteArray.empty), (.slice none 0 0)]) := by kernel_rfl
theorem pl85 : V.plB Go.Proofs.Try.prog 85 = some [(0, 1), (1, 1)] := by kernel_rfl
theorem fd85_0 : fdB Go.Proofs.Try.prog 85 0 = some (0, 9, 0 + 1) := by kernel_rfl
theorem fd85_1 : fdB Go.Proofs.Try.prog 85 1 = some (1, 22, 0 + 1) := by kernel_rfl
theorem ag86 : agB Go.Proofs.Try.prog 86 = some true := by kernel_rfl
theorem sz86 : szB Go.Proofs.Try.prog 86 = some 2 := by kernel_rfl
theorem by86 : byB Go.Proofs.Try.prog 86 = some 40 := by kernel_rfl
theorem zr86 : zrB Go.Proofs.Try.prog 86 = some (.agg #[(.string ByteArray.empty), (.slice none 0 0)]) := by kernel_rfl
theorem pl86 : V.plB Go.Proofs.Try.prog 86 = some [(0, 1), (1, 1)] := by kernel_rfl
theorem fd86_0 : fdB Go.Proofs.Try.prog 86 0 = some (0, 9, 0 + 1) := by kernel_rfl
theorem fd86_1 : fdB Go.Proofs.Try.prog 86 1 = some (1, 22, 0 + 1) := by kernel_rfl
theorem ag90 : agB Go.Proofs.Try.prog 90 = some false := by kernel_rfl
theorem sz90 : szB Go.Proofs.Try.prog 90 = some 1 := by kernel_rfl
theorem by90 : byB Go.Proofs.Try.prog 90 = some 8 := by kernel_rfl
theorem zr90 : zrB Go.Proofs.Try.prog 90 = some (.pointer none) := by kernel_rfl
theorem pt90 : ptB Go.Proofs.Try.prog 90 = some 92 := by kernel_rfl
theorem ag91 : agB Go.Proofs.Try.prog 91 = some true := by kernel_rfl
theorem sz91 : szB Go.Proofs.Try.prog 91 = some 5 := by kernel_rfl
theorem by91 : byB Go.Proofs.Try.prog 91 = some 56 := by kernel_rfl
theorem zr91 : zrB Go.Proofs.Try.prog 91 = some (.agg #[(.slice none 0 0), (.int .i64 0), (.int .i64 0), (.int .u64 0), (.int .u64 0)]) := by kernel_rfl
theorem pl91 : V.plB Go.Proofs.Try.prog 91 = some [(0, 1), (1, 1), (2, 1), (3, 1), (4, 1)] := by kernel_rfl
theorem fd91_0 : fdB Go.Proofs.Try.prog 91 0 = some (0, 22, 0 + 1) := by kernel_rfl
theorem fd91_1 : fdB Go.Proofs.Try.prog 91 1 = some (1, 3, 0 + 1) := by kernel_rfl
theorem fd91_2 : fdB Go.Proofs.Try.prog 91 2 = some (2, 3, 0 + 1) := by kernel_rfl
theorem fd91_3 : fdB Go.Proofs.Try.prog 91 3 = some (3, 25, 0 + 1) := by kernel_rfl
theorem fd91_4 : fdB Go.Proofs.Try.prog 91 4 = some (4, 25, 0 + 1) := by kernel_rfl
theorem ag92 : agB Go.Proofs.Try.prog 92 = some true := by kernel_rfl
theorem sz92 : szB Go.Proofs.Try.prog 92 = some 5 := by kernel_rfl
theorem by92 : byB Go.Proofs.Try.prog 92 = some 56 := by kernel_rfl
theorem zr92 : zrB Go.Proofs.Try.prog 92 = some (.agg #[(.slice none 0 0), (.int .i64 0), (.int .i64 0), (.int .u64 0), (.int .u64 0)]) := by kernel_rfl
theorem pl92 : V.plB Go.Proofs.Try.prog 92 = some [(0, 1), (1, 1), (2, 1), (3, 1), (4, 1)] := by kernel_rfl
theorem fd92_0 : fdB Go.Proofs.Try.prog 92 0 = some (0, 22, 0 + 1) := by kernel_rfl
theorem fd92_1 : fdB Go.Proofs.Try.prog 92 1 = some (1, 3, 0 + 1) := by kernel_rfl
theorem fd92_2 : fdB Go.Proofs.Try.prog 92 2 = some (2, 3, 0 + 1) := by kernel_rfl
theorem fd92_3 : fdB Go.Proofs.Try.prog 92 3 = some (3, 25, 0 + 1) := by kernel_rfl
theorem fd92_4 : fdB Go.Proofs.Try.prog 92 4 = some (4, 25, 0 + 1) := by kernel_rfl
theorem ag100 : agB Go.Proofs.Try.prog 100 = some false := by kernel_rfl
theorem sz100 : szB Go.Proofs.Try.prog 100 = some 1 := by kernel_rfl
theorem by100 : byB Go.Proofs.Try.prog 100 = some 8 := by kernel_rfl
theorem zr100 : zrB Go.Proofs.Try.prog 100 = some (.map none) := by kernel_rfl
theorem mp100 : mpB Go.Proofs.Try.prog 100 = some (3, 38) := by kernel_rfl
theorem ag101 : agB Go.Proofs.Try.prog 101 = some false := by kernel_rfl
theorem sz101 : szB Go.Proofs.Try.prog 101 = some 1 := by kernel_rfl
theorem by101 : byB Go.Proofs.Try.prog 101 = some 24 := by kernel_rfl
theorem zr101 : zrB Go.Proofs.Try.prog 101 = some (.slice none 0 0) := by kernel_rfl
theorem el101 : elB Go.Proofs.Try.prog 101 = some 3 := by kernel_rfl
theorem ag111 : agB Go.Proofs.Try.prog 111 = some false := by kernel_rfl
theorem sz111 : szB Go.Proofs.Try.prog 111 = some 1 := by kernel_rfl
theorem by111 : byB Go.Proofs.Try.prog 111 = some 8 := by kernel_rfl
theorem zr111 : zrB Go.Proofs.Try.prog 111 = some (.map none) := by kernel_rfl
theorem mp111 : mpB Go.Proofs.Try.prog 111 = some (9, 118) := by kernel_rfl
theorem ag112 : agB Go.Proofs.Try.prog 112 = some true := by kernel_rfl
theorem sz112 : szB Go.Proofs.Try.prog 112 = some 4 := by kernel_rfl
theorem by112 : byB Go.Proofs.Try.prog 112 = some 32 := by kernel_rfl
theorem zr112 : zrB Go.Proofs.Try.prog 112 = some (.agg #[(.map none), (.bool false), (.int .i64 0), (.int .i64 0)]) := by kernel_rfl
theorem pl112 : V.plB Go.Proofs.Try.prog 112 = some [(0, 1), (1, 1), (2, 1), (3, 1)] := by kernel_rfl
theorem fd112_0 : fdB Go.Proofs.Try.prog 112 0 = some (0, 111, 0 + 1) := by kernel_rfl
theorem fd112_1 : fdB Go.Proofs.Try.prog 112 1 = some (1, 4, 0 + 1) := by kernel_rfl
theorem fd112_2 : fdB Go.Proofs.Try.prog 112 2 = some (2, 3, 0 + 1) := by kernel_rfl
theorem fd112_3 : fdB Go.Proofs.Try.prog 112 3 = some (3, 3, 0 + 1) := by kernel_rfl
theorem ag113 : agB Go.Proofs.Try.prog 113 = some true := by kernel_rfl
theorem sz113 : szB Go.Proofs.Try.prog 113 = some 4 := by kernel_rfl
theorem by113 : byB Go.Proofs.Try.prog 113 = some 32 := by kernel_rfl
theorem zr113 : zrB Go.Proofs.Try.prog 113 = some (.agg #[(.map none), (.bool false), (.int .i64 0), (.int .i64 0)]) := by kernel_rfl
theorem pl113 : V.plB Go.Proofs.Try.prog 113 = some [(0, 1), (1, 1), (2, 1), (3, 1)] := by kernel_rfl
theorem fd113_0 : fdB Go.Proofs.Try.prog 113 0 = some (0, 111, 0 + 1) := by kernel_rfl
theorem fd113_1 : fdB Go.Proofs.Try.prog 113 1 = some (1, 4, 0 + 1) := by kernel_rfl
theorem fd113_2 : fdB Go.Proofs.Try.prog 113 2 = some (2, 3, 0 + 1) := by kernel_rfl
theorem fd113_3 : fdB Go.Proofs.Try.prog 113 3 = some (3, 3, 0 + 1) := by kernel_rfl
theorem ag116 : agB Go.Proofs.Try.prog 116 = some true := by kernel_rfl
theorem sz116 : szB Go.Proofs.Try.prog 116 = some 3 := by kernel_rfl
theorem by116 : byB Go.Proofs.Try.prog 116 = some 40 := by kernel_rfl
theorem zr116 : zrB Go.Proofs.Try.prog 116 = some (.agg #[(.int .i64 0), (.int .i64 0), (.slice none 0 0)]) := by kernel_rfl
theorem pl116 : V.plB Go.Proofs.Try.prog 116 = some [(0, 1), (1, 1), (2, 1)] := by kernel_rfl
theorem fd116_0 : fdB Go.Proofs.Try.prog 116 0 = some (0, 3, 0 + 1) := by kernel_rfl
theorem fd116_1 : fdB Go.Proofs.Try.prog 116 1 = some (1, 3, 0 + 1) := by kernel_rfl
theorem fd116_2 : fdB Go.Proofs.Try.prog 116 2 = some (2, 22, 0 + 1) := by kernel_rfl
theorem ag117 : agB Go.Proofs.Try.prog 117 = some true := by kernel_rfl
theorem sz117 : szB Go.Proofs.Try.prog 117 = some 3 := by kernel_rfl
theorem by117 : byB Go.Proofs.Try.prog 117 = some 40 := by kernel_rfl
theorem zr117 : zrB Go.Proofs.Try.prog 117 = some (.agg #[(.int .i64 0), (.int .i64 0), (.slice none 0 0)]) := by kernel_rfl
theorem pl117 : V.plB Go.Proofs.Try.prog 117 = some [(0, 1), (1, 1), (2, 1)] := by kernel_rfl
theorem fd117_0 : fdB Go.Proofs.Try.prog 117 0 = some (0, 3, 0 + 1) := by kernel_rfl
theorem fd117_1 : fdB Go.Proofs.Try.prog 117 1 = some (1, 3, 0 + 1) := by kernel_rfl
theorem fd117_2 : fdB Go.Proofs.Try.prog 117 2 = some (2, 22, 0 + 1) := by kernel_rfl
theorem ag118 : agB Go.Proofs.Try.prog 118 = some false := by kernel_rfl
theorem sz118 : szB Go.Proofs.Try.prog 118 = some 1 := by kernel_rfl
theorem by118 : byB Go.Proofs.Try.prog 118 = some 8 := by kernel_rfl
theorem zr118 : zrB Go.Proofs.Try.prog 118 = some (.pointer none) := by kernel_rfl
theorem pt118 : ptB Go.Proofs.Try.prog 118 = some 122 := by kernel_rfl
theorem ag120 : agB Go.Proofs.Try.prog 120 = some false := by kernel_rfl
theorem sz120 : szB Go.Proofs.Try.prog 120 = some 1 := by kernel_rfl
theorem by120 : byB Go.Proofs.Try.prog 120 = some 24 := by kernel_rfl
theorem zr120 : zrB Go.Proofs.Try.prog 120 = some (.slice none 0 0) := by kernel_rfl
theorem el120 : elB Go.Proofs.Try.prog 120 = some 117 := by kernel_rfl
theorem ag121 : agB Go.Proofs.Try.prog 121 = some true := by kernel_rfl
theorem sz121 : szB Go.Proofs.Try.prog 121 = some 5 := by kernel_rfl
theorem by121 : byB Go.Proofs.Try.prog 121 = some 80 := by kernel_rfl
theorem zr121 : zrB Go.Proofs.Try.prog 121 = some (.agg #[(.slice none 0 0), (.slice none 0 0), (.bool false), (.bool false), (.slice none 0 0)]) := by kernel_rfl
theorem pl121 : V.plB Go.Proofs.Try.prog 121 = some [(0, 1), (1, 1), (2, 1), (3, 1), (4, 1)] := by kernel_rfl
theorem fd121_0 : fdB Go.Proofs.Try.prog 121 0 = some (0, 22, 0 + 1) := by kernel_rfl
theorem fd121_1 : fdB Go.Proofs.Try.prog 121 1 = some (1, 22, 0 + 1) := by kernel_rfl
theorem fd121_2 : fdB Go.Proofs.Try.prog 121 2 = some (2, 4, 0 + 1) := by kernel_rfl
theorem fd121_3 : fdB Go.Proofs.Try.prog 121 3 = some (3, 4, 0 + 1) := by kernel_rfl
theorem fd121_4 : fdB Go.Proofs.Try.prog 121 4 = some (4, 120, 0 + 1) := by kernel_rfl
theorem ag122 : agB Go.Proofs.Try.prog 122 = some true := by kernel_rfl
theorem sz122 : szB Go.Proofs.Try.prog 122 = some 5 := by kernel_rfl
theorem by122 : byB Go.Proofs.Try.prog 122 = some 80 := by kernel_rfl
theorem zr122 : zrB Go.Proofs.Try.prog 122 = some (.agg #[(.slice none 0 0), (.slice none 0 0), (.bool false), (.bool false), (.slice none 0 0)]) := by kernel_rfl
theorem pl122 : V.plB Go.Proofs.Try.prog 122 = some [(0, 1), (1, 1), (2, 1), (3, 1), (4, 1)] := by kernel_rfl
theorem fd122_0 : fdB Go.Proofs.Try.prog 122 0 = some (0, 22, 0 + 1) := by kernel_rfl
theorem fd122_1 : fdB Go.Proofs.Try.prog 122 1 = some (1, 22, 0 + 1) := by kernel_rfl
theorem fd122_2 : fdB Go.Proofs.Try.prog 122 2 = some (2, 4, 0 + 1) := by kernel_rfl
theorem fd122_3 : fdB Go.Proofs.Try.prog 122 3 = some (3, 4, 0 + 1) := by kernel_rfl
theorem fd122_4 : fdB Go.Proofs.Try.prog 122 4 = some (4, 120, 0 + 1) := by kernel_rfl
theorem ag141 : agB Go.Proofs.Try.prog 141 = some true := by kernel_rfl
theorem sz141 : szB Go.Proofs.Try.prog 141 = some 4 := by kernel_rfl
theorem by141 : byB Go.Proofs.Try.prog 141 = some 4 := by kernel_rfl
theorem zr141 : zrB Go.Proofs.Try.prog 141 = some (.agg #[(.int .u8 0), (.int .u8 0), (.int .u8 0), (.int .u8 0)]) := by kernel_rfl
theorem ar141 : arB Go.Proofs.Try.prog 141 = some (4, 5) := by kernel_rfl
theorem ag143 : agB Go.Proofs.Try.prog 143 = some false := by kernel_rfl
theorem sz143 : szB Go.Proofs.Try.prog 143 = some 1 := by kernel_rfl
theorem by143 : byB Go.Proofs.Try.prog 143 = some 24 := by kernel_rfl
theorem zr143 : zrB Go.Proofs.Try.prog 143 = some (.slice none 0 0) := by kernel_rfl
theorem el143 : elB Go.Proofs.Try.prog 143 = some 22 := by kernel_rfl
theorem ag145 : agB Go.Proofs.Try.prog 145 = some false := by kernel_rfl
theorem sz145 : szB Go.Proofs.Try.prog 145 = some 1 := by kernel_rfl
theorem by145 : byB Go.Proofs.Try.prog 145 = some 4 := by kernel_rfl
theorem zr145 : zrB Go.Proofs.Try.prog 145 = some (.int .u32 0) := by kernel_rfl
theorem in145 : inB Go.Proofs.Try.prog 145 = some .u32 := by kernel_rfl
theorem ag151 : agB Go.Proofs.Try.prog 151 = some true := by kernel_rfl
theorem sz151 : szB Go.Proofs.Try.prog 151 = some 4 := by kernel_rfl
theorem by151 : byB Go.Proofs.Try.prog 151 = some 56 := by kernel_rfl
theorem zr151 : zrB Go.Proofs.Try.prog 151 = some (.agg #[(.int .i64 0), (.int .i64 0), (.string ByteArray.empty), (.slice none 0 0)]) := by kernel_rfl
theorem pl151 : V.plB Go.Proofs.Try.prog 151 = some [(0, 1), (1, 1), (2, 1), (3, 1)] := by kernel_rfl
theorem fd151_0 : fdB Go.Proofs.Try.prog 151 0 = some (0, 3, 0 + 1) := by kernel_rfl
theorem fd151_1 : fdB Go.Proofs.Try.prog 151 1 = some (1, 3, 0 + 1) := by kernel_rfl
theorem fd151_2 : fdB Go.Proofs.Try.prog 151 2 = some (2, 9, 0 + 1) := by kernel_rfl
theorem fd151_3 : fdB Go.Proofs.Try.prog 151 3 = some (3, 22, 0 + 1) := by kernel_rfl
theorem ag152 : agB Go.Proofs.Try.prog 152 = some true := by kernel_rfl
theorem sz152 : szB Go.Proofs.Try.prog 152 = some 4 := by kernel_rfl
theorem by152 : byB Go.Proofs.Try.prog 152 = some 56 := by kernel_rfl
theorem zr152 : zrB Go.Proofs.Try.prog 152 = some (.agg #[(.int .i64 0), (.int .i64 0), (.string ByteArray.empty), (.slice none 0 0)]) := by kernel_rfl
theorem pl152 : V.plB Go.Proofs.Try.prog 152 = some [(0, 1), (1, 1), (2, 1), (3, 1)] := by kernel_rfl
theorem fd152_0 : fdB Go.Proofs.Try.prog 152 0 = some (0, 3, 0 + 1) := by kernel_rfl
theorem fd152_1 : fdB Go.Proofs.Try.prog 152 1 = some (1, 3, 0 + 1) := by kernel_rfl
theorem fd152_2 : fdB Go.Proofs.Try.prog 152 2 = some (2, 9, 0 + 1) := by kernel_rfl
theorem fd152_3 : fdB Go.Proofs.Try.prog 152 3 = some (3, 22, 0 + 1) := by kernel_rfl
theorem ag168 : agB Go.Proofs.Try.prog 168 = some false := by kernel_rfl
theorem sz168 : szB Go.Proofs.Try.prog 168 = some 1 := by kernel_rfl
theorem by168 : byB Go.Proofs.Try.prog 168 = some 8 := by kernel_rfl
theorem zr168 : zrB Go.Proofs.Try.prog 168 = some (.int .u64 0) := by kernel_rfl
theorem in168 : inB Go.Proofs.Try.prog 168 = some .u64 := by kernel_rfl
theorem ag173 : agB Go.Proofs.Try.prog 173 = some false := by kernel_rfl
theorem sz173 : szB Go.Proofs.Try.prog 173 = some 1 := by kernel_rfl
theorem by173 : byB Go.Proofs.Try.prog 173 = some 8 := by kernel_rfl
theorem zr173 : zrB Go.Proofs.Try.prog 173 = some (.int .i64 0) := by kernel_rfl
theorem in173 : inB Go.Proofs.Try.prog 173 = some .i64 := by kernel_rfl
theorem ag181 : agB Go.Proofs.Try.prog 181 = some true := by kernel_rfl
theorem sz181 : szB Go.Proofs.Try.prog 181 = some 16 := by kernel_rfl
theorem by181 : byB Go.Proofs.Try.prog 181 = some 64 := by kernel_rfl
theorem zr181 : zrB Go.Proofs.Try.prog 181 = some (.agg #[(.int .u32 0), (.int .u32 0), (.int .u32 0), (.int .u32 0), (.int .u32 0), (.int .u32 0), (.int .u32 0), (.int .u32 0), (.int .u32 0), (.int .u32 0), (.int .u32 0), (.int .u32 0), (.int .u32 0), (.int .u32 0), (.int .u32 0), (.int .u32 0)]) := by kernel_rfl
theorem ar181 : arB Go.Proofs.Try.prog 181 = some (16, 145) := by kernel_rfl
theorem ag185 : agB Go.Proofs.Try.prog 185 = some false := by kernel_rfl
theorem sz185 : szB Go.Proofs.Try.prog 185 = some 1 := by kernel_rfl
theorem by185 : byB Go.Proofs.Try.prog 185 = some 8 := by kernel_rfl
theorem zr185 : zrB Go.Proofs.Try.prog 185 = some (.int .u64 0) := by kernel_rfl
theorem in185 : inB Go.Proofs.Try.prog 185 = some .u64 := by kernel_rfl
theorem ag189 : agB Go.Proofs.Try.prog 189 = some false := by kernel_rfl
theorem sz189 : szB Go.Proofs.Try.prog 189 = some 1 := by kernel_rfl
theorem by189 : byB Go.Proofs.Try.prog 189 = some 8 := by kernel_rfl
theorem zr189 : zrB Go.Proofs.Try.prog 189 = some (.pointer none) := by kernel_rfl
theorem pt189 : ptB Go.Proofs.Try.prog 189 = some 3 := by kernel_rfl
theorem ag197 : agB Go.Proofs.Try.prog 197 = some false := by kernel_rfl
theorem sz197 : szB Go.Proofs.Try.prog 197 = some 1 := by kernel_rfl
theorem by197 : byB Go.Proofs.Try.prog 197 = some 8 := by kernel_rfl
theorem zr197 : zrB Go.Proofs.Try.prog 197 = some (.pointer none) := by kernel_rfl
theorem pt197 : ptB Go.Proofs.Try.prog 197 = some 185 := by kernel_rfl
theorem ag204 : agB Go.Proofs.Try.prog 204 = some true := by kernel_rfl
theorem sz204 : szB Go.Proofs.Try.prog 204 = some 4 := by kernel_rfl
theorem by204 : byB Go.Proofs.Try.prog 204 = some 40 := by kernel_rfl
theorem zr204 : zrB Go.Proofs.Try.prog 204 = some (.agg #[(.pointer none), (.pointer none), (.pointer none), (.string ByteArray.empty)]) := by kernel_rfl
theorem pl204 : V.plB Go.Proofs.Try.prog 204 = some [(0, 1), (1, 1), (2, 1), (3, 1)] := by kernel_rfl
theorem fd204_0 : fdB Go.Proofs.Try.prog 204 0 = some (0, 17, 0 + 1) := by kernel_rfl
theorem fd204_1 : fdB Go.Proofs.Try.prog 204 1 = some (1, 17, 0 + 1) := by kernel_rfl
theorem fd204_2 : fdB Go.Proofs.Try.prog 204 2 = some (2, 17, 0 + 1) := by kernel_rfl
theorem fd204_3 : fdB Go.Proofs.Try.prog 204 3 = some (3, 9, 0 + 1) := by kernel_rfl
theorem ag205 : agB Go.Proofs.Try.prog 205 = some true := by kernel_rfl
theorem sz205 : szB Go.Proofs.Try.prog 205 = some 4 := by kernel_rfl
theorem by205 : byB Go.Proofs.Try.prog 205 = some 40 := by kernel_rfl
theorem zr205 : zrB Go.Proofs.Try.prog 205 = some (.agg #[(.pointer none), (.pointer none), (.pointer none), (.string ByteArray.empty)]) := by kernel_rfl
theorem pl205 : V.plB Go.Proofs.Try.prog 205 = some [(0, 1), (1, 1), (2, 1), (3, 1)] := by kernel_rfl
theorem fd205_0 : fdB Go.Proofs.Try.prog 205 0 = some (0, 17, 0 + 1) := by kernel_rfl
theorem fd205_1 : fdB Go.Proofs.Try.prog 205 1 = some (1, 17, 0 + 1) := by kernel_rfl
theorem fd205_2 : fdB Go.Proofs.Try.prog 205 2 = some (2, 17, 0 + 1) := by kernel_rfl
theorem fd205_3 : fdB Go.Proofs.Try.prog 205 3 = some (3, 9, 0 + 1) := by kernel_rfl
theorem ag206 : agB Go.Proofs.Try.prog 206 = some true := by kernel_rfl
theorem sz206 : szB Go.Proofs.Try.prog 206 = some 0 := by kernel_rfl
theorem by206 : byB Go.Proofs.Try.prog 206 = some 0 := by kernel_rfl
theorem zr206 : zrB Go.Proofs.Try.prog 206 = some (.agg #[]) := by kernel_rfl
theorem ar206 : arB Go.Proofs.Try.prog 206 = some (0, 16) := by kernel_rfl
theorem ag207 : agB Go.Proofs.Try.prog 207 = some true := by kernel_rfl
theorem sz207 : szB Go.Proofs.Try.prog 207 = some 0 := by kernel_rfl
theorem by207 : byB Go.Proofs.Try.prog 207 = some 0 := by kernel_rfl
theorem zr207 : zrB Go.Proofs.Try.prog 207 = some (.agg #[]) := by kernel_rfl
theorem pl207 : V.plB Go.Proofs.Try.prog 207 = some [(0, 0)] := by kernel_rfl
theorem ag208 : agB Go.Proofs.Try.prog 208 = some true := by kernel_rfl
theorem sz208 : szB Go.Proofs.Try.prog 208 = some 0 := by kernel_rfl
theorem by208 : byB Go.Proofs.Try.prog 208 = some 0 := by kernel_rfl
theorem zr208 : zrB Go.Proofs.Try.prog 208 = some (.agg #[]) := by kernel_rfl
theorem pl208 : V.plB Go.Proofs.Try.prog 208 = some [(0, 0)] := by kernel_rfl
theorem ag209 : agB Go.Proofs.Try.prog 209 = some false := by kernel_rfl
theorem sz209 : szB Go.Proofs.Try.prog 209 = some 1 := by kernel_rfl
theorem by209 : byB Go.Proofs.Try.prog 209 = some 1 := by kernel_rfl
theorem zr209 : zrB Go.Proofs.Try.prog 209 = some (.int .u8 0) := by kernel_rfl
theorem in209 : inB Go.Proofs.Try.prog 209 = some .u8 := by kernel_rfl
theorem ag210 : agB Go.Proofs.Try.prog 210 = some false := by kernel_rfl
theorem sz210 : szB Go.Proofs.Try.prog 210 = some 1 := by kernel_rfl
theorem by210 : byB Go.Proofs.Try.prog 210 = some 1 := by kernel_rfl
theorem zr210 : zrB Go.Proofs.Try.prog 210 = some (.int .u8 0) := by kernel_rfl
theorem in210 : inB Go.Proofs.Try.prog 210 = some .u8 := by kernel_rfl
theorem ag212 : agB Go.Proofs.Try.prog 212 = some false := by kernel_rfl
theorem sz212 : szB Go.Proofs.Try.prog 212 = some 1 := by kernel_rfl
theorem by212 : byB Go.Proofs.Try.prog 212 = some 8 := by kernel_rfl
theorem zr212 : zrB Go.Proofs.Try.prog 212 = some (.pointer none) := by kernel_rfl
theorem pt212 : ptB Go.Proofs.Try.prog 212 = some 5 := by kernel_rfl
theorem ag213 : agB Go.Proofs.Try.prog 213 = some false := by kernel_rfl
theorem sz213 : szB Go.Proofs.Try.prog 213 = some 1 := by kernel_rfl
theorem by213 : byB Go.Proofs.Try.prog 213 = some 4 := by kernel_rfl
theorem zr213 : zrB Go.Proofs.Try.prog 213 = some (.int .i32 0) := by kernel_rfl
theorem in213 : inB Go.Proofs.Try.prog 213 = some .i32 := by kernel_rfl
theorem ag214 : agB Go.Proofs.Try.prog 214 = some false := by kernel_rfl
theorem sz214 : szB Go.Proofs.Try.prog 214 = some 1 := by kernel_rfl
theorem by214 : byB Go.Proofs.Try.prog 214 = some 4 := by kernel_rfl
theorem zr214 : zrB Go.Proofs.Try.prog 214 = some (.int .i32 0) := by kernel_rfl
theorem in214 : inB Go.Proofs.Try.prog 214 = some .i32 := by kernel_rfl
theorem ag215 : agB Go.Proofs.Try.prog 215 = some true := by kernel_rfl
theorem sz215 : szB Go.Proofs.Try.prog 215 = some 11 := by kernel_rfl
theorem by215 : byB Go.Proofs.Try.prog 215 = some 48 := by kernel_rfl
theorem zr215 : zrB Go.Proofs.Try.prog 215 = some (.agg #[(.int .u64 0), (.int .u64 0), (.int .u32 0), (.int .u8 0), (.int .u8 0), (.int .u8 0), (.int .u8 0), .nilFunc, (.pointer none), (.int .i32 0), (.int .i32 0)]) := by kernel_rfl
theorem fd215_0 : fdB Go.Proofs.Try.prog 215 0 = some (0, 12, 0 + 1) := by kernel_rfl
theorem fd215_1 : fdB Go.Proofs.Try.prog 215 1 = some (1, 12, 0 + 1) := by kernel_rfl
theorem fd215_2 : fdB Go.Proofs.Try.prog 215 2 = some (2, 145, 0 + 1) := by kernel_rfl
theorem fd215_3 : fdB Go.Proofs.Try.prog 215 3 = some (3, 209, 0 + 1) := by kernel_rfl
theorem fd215_4 : fdB Go.Proofs.Try.prog 215 4 = some (4, 5, 0 + 1) := by kernel_rfl
theorem fd215_5 : fdB Go.Proofs.Try.prog 215 5 = some (5, 5, 0 + 1) := by kernel_rfl
theorem fd215_6 : fdB Go.Proofs.Try.prog 215 6 = some (6, 210, 0 + 1) := by kernel_rfl
theorem fd215_8 : fdB Go.Proofs.Try.prog 215 8 = some (8, 212, 0 + 1) := by kernel_rfl
theorem fd215_9 : fdB Go.Proofs.Try.prog 215 9 = some (9, 213, 0 + 1) := by kernel_rfl
theorem fd215_10 : fdB Go.Proofs.Try.prog 215 10 = some (10, 214, 0 + 1) := by kernel_rfl
theorem ag216 : agB Go.Proofs.Try.prog 216 = some true := by kernel_rfl
theorem sz216 : szB Go.Proofs.Try.prog 216 = some 11 := by kernel_rfl
theorem by216 : byB Go.Proofs.Try.prog 216 = some 48 := by kernel_rfl
theorem zr216 : zrB Go.Proofs.Try.prog 216 = some (.agg #[(.int .u64 0), (.int .u64 0), (.int .u32 0), (.int .u8 0), (.int .u8 0), (.int .u8 0), (.int .u8 0), .nilFunc, (.pointer none), (.int .i32 0), (.int .i32 0)]) := by kernel_rfl
theorem fd216_0 : fdB Go.Proofs.Try.prog 216 0 = some (0, 12, 0 + 1) := by kernel_rfl
theorem fd216_1 : fdB Go.Proofs.Try.prog 216 1 = some (1, 12, 0 + 1) := by kernel_rfl
theorem fd216_2 : fdB Go.Proofs.Try.prog 216 2 = some (2, 145, 0 + 1) := by kernel_rfl
theorem fd216_3 : fdB Go.Proofs.Try.prog 216 3 = some (3, 209, 0 + 1) := by kernel_rfl
theorem fd216_4 : fdB Go.Proofs.Try.prog 216 4 = some (4, 5, 0 + 1) := by kernel_rfl
theorem fd216_5 : fdB Go.Proofs.Try.prog 216 5 = some (5, 5, 0 + 1) := by kernel_rfl
theorem fd216_6 : fdB Go.Proofs.Try.prog 216 6 = some (6, 210, 0 + 1) := by kernel_rfl
theorem fd216_8 : fdB Go.Proofs.Try.prog 216 8 = some (8, 212, 0 + 1) := by kernel_rfl
theorem fd216_9 : fdB Go.Proofs.Try.prog 216 9 = some (9, 213, 0 + 1) := by kernel_rfl
theorem fd216_10 : fdB Go.Proofs.Try.prog 216 10 = some (10, 214, 0 + 1) := by kernel_rfl
end T
end Go.Proofs.Ytpebbkhainpfaaa
