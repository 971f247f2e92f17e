/- Closed facts on the types of this translation, written by a program of this claim; each is decided by the kernel. Numbers in bytes: num.Fixed, num.Read, bytes.Join, num.Join, and the document's Fixed and Read. Conditions: the slices are readable, the sizes 1 to 8. Sums of bytes: sum.table, Sum, Next, foot, Seal, and the document's. Conditions: the slices are readable. -/
import Derived.Test.YtpebbkhainpfaaaPk4
import Derived.Test.YtpebbkhainpfaaaProg
namespace Go.Proofs.Ytpebbkhainpfaaa
open Go Go.HL
theorem mixed : Go.Proofs.Try.prog.follows .mixedOrders = true := by kernel_rfl
namespace T
theorem ag2 : agB Go.Proofs.Try.prog 2 = some false := by kernel_rfl
theorem sz2 : szB Go.Proofs.Try.prog 2 = some 1 := by kernel_rfl
theorem by2 : byB Go.Proofs.Try.prog 2 = some 8 := by kernel_rfl
theorem zr2 : zrB Go.Proofs.Try.prog 2 = some (.int .i64 0) := by kernel_rfl
theorem in2 : inB Go.Proofs.Try.prog 2 = some .i64 := by kernel_rfl
theorem ag3 : agB Go.Proofs.Try.prog 3 = some false := by kernel_rfl
theorem sz3 : szB Go.Proofs.Try.prog 3 = some 1 := by kernel_rfl
theorem by3 : byB Go.Proofs.Try.prog 3 = some 8 := by kernel_rfl
theorem zr3 : zrB Go.Proofs.Try.prog 3 = some (.int .i64 0) := by kernel_rfl
theorem in3 : inB Go.Proofs.Try.prog 3 = some .i64 := by kernel_rfl
theorem ag4 : agB Go.Proofs.Try.prog 4 = some false := by kernel_rfl
theorem sz4 : szB Go.Proofs.Try.prog 4 = some 1 := by kernel_rfl
theorem by4 : byB Go.Proofs.Try.prog 4 = some 1 := by kernel_rfl
theorem zr4 : zrB Go.Proofs.Try.prog 4 = some (.bool false) := by kernel_rfl
theorem bo4 : boB Go.Proofs.Try.prog 4 = true := by kernel_rfl
theorem ag5 : agB Go.Proofs.Try.prog 5 = some false := by kernel_rfl
theorem sz5 : szB Go.Proofs.Try.prog 5 = some 1 := by kernel_rfl
theorem by5 : byB Go.Proofs.Try.prog 5 = some 1 := by kernel_rfl
theorem zr5 : zrB Go.Proofs.Try.prog 5 = some (.int .u8 0) := by kernel_rfl
theorem in5 : inB Go.Proofs.Try.prog 5 = some .u8 := by kernel_rfl
theorem ag6 : agB Go.Proofs.Try.prog 6 = some false := by kernel_rfl
theorem sz6 : szB Go.Proofs.Try.prog 6 = some 1 := by kernel_rfl
theorem by6 : byB Go.Proofs.Try.prog 6 = some 1 := by kernel_rfl
theorem zr6 : zrB Go.Proofs.Try.prog 6 = some (.int .u8 0) := by kernel_rfl
theorem in6 : inB Go.Proofs.Try.prog 6 = some .u8 := by kernel_rfl
theorem ag7 : agB Go.Proofs.Try.prog 7 = some true := by kernel_rfl
theorem sz7 : szB Go.Proofs.Try.prog 7 = some 4 := by kernel_rfl
theorem by7 : byB Go.Proofs.Try.prog 7 = some 24 := by kernel_rfl
theorem zr7 : zrB Go.Proofs.Try.prog 7 = some (.agg #[(.int .i64 0), (.int .i64 0), (.bool false), (.int .u8 0)]) := by kernel_rfl
theorem pl7 : V.plB Go.Proofs.Try.prog 7 = some [(0, 1), (1, 1), (2, 1), (3, 1)] := by kernel_rfl
theorem fd7_0 : fdB Go.Proofs.Try.prog 7 0 = some (0, 2, 0 + 1) := by kernel_rfl
theorem fd7_1 : fdB Go.Proofs.Try.prog 7 1 = some (1, 3, 0 + 1) := by kernel_rfl
theorem fd7_2 : fdB Go.Proofs.Try.prog 7 2 = some (2, 4, 0 + 1) := by kernel_rfl
theorem fd7_3 : fdB Go.Proofs.Try.prog 7 3 = some (3, 6, 0 + 1) := by kernel_rfl
theorem ag8 : agB Go.Proofs.Try.prog 8 = some true := by kernel_rfl
theorem sz8 : szB Go.Proofs.Try.prog 8 = some 4 := by kernel_rfl
theorem by8 : byB Go.Proofs.Try.prog 8 = some 24 := by kernel_rfl
theorem zr8 : zrB Go.Proofs.Try.prog 8 = some (.agg #[(.int .i64 0), (.int .i64 0), (.bool false), (.int .u8 0)]) := by kernel_rfl
theorem pl8 : V.plB Go.Proofs.Try.prog 8 = some [(0, 1), (1, 1), (2, 1), (3, 1)] := by kernel_rfl
theorem fd8_0 : fdB Go.Proofs.Try.prog 8 0 = some (0, 2, 0 + 1) := by kernel_rfl
theorem fd8_1 : fdB Go.Proofs.Try.prog 8 1 = some (1, 3, 0 + 1) := by kernel_rfl
theorem fd8_2 : fdB Go.Proofs.Try.prog 8 2 = some (2, 4, 0 + 1) := by kernel_rfl
theorem fd8_3 : fdB Go.Proofs.Try.prog 8 3 = some (3, 6, 0 + 1) := by kernel_rfl
theorem ag9 : agB Go.Proofs.Try.prog 9 = some false := by kernel_rfl
theorem sz9 : szB Go.Proofs.Try.prog 9 = some 1 := by kernel_rfl
theorem by9 : byB Go.Proofs.Try.prog 9 = some 16 := by kernel_rfl
theorem zr9 : zrB Go.Proofs.Try.prog 9 = some (.string ByteArray.empty) := by kernel_rfl
theorem st9 : stB Go.Proofs.Try.prog 9 = true := by kernel_rfl
theorem ag10 : agB Go.Proofs.Try.prog 10 = some false := by kernel_rfl
theorem sz10 : szB Go.Proofs.Try.prog 10 = some 1 := by kernel_rfl
theorem by10 : byB Go.Proofs.Try.prog 10 = some 16 := by kernel_rfl
theorem zr10 : zrB Go.Proofs.Try.prog 10 = some (.string ByteArray.empty) := by kernel_rfl
theorem st10 : stB Go.Proofs.Try.prog 10 = true := by kernel_rfl
theorem ag11 : agB Go.Proofs.Try.prog 11 = some false := by kernel_rfl
theorem sz11 : szB Go.Proofs.Try.prog 11 = some 1 := by kernel_rfl
theorem by11 : byB Go.Proofs.Try.prog 11 = some 16 := by kernel_rfl
theorem zr11 : zrB Go.Proofs.Try.prog 11 = some (.string ByteArray.empty) := by kernel_rfl
theorem st11 : stB Go.Proofs.Try.prog 11 = true := by kernel_rfl
theorem ag12 : agB Go.Proofs.Try.prog 12 = some false := by kernel_rfl
theorem sz12 : szB Go.Proofs.Try.prog 12 = some 1 := by kernel_rfl
theorem by12 : byB Go.Proofs.Try.prog 12 = some 8 := by kernel_rfl
theorem zr12 : zrB Go.Proofs.Try.prog 12 = some (.int .u64 0) := by kernel_rfl
theorem in12 : inB Go.Proofs.Try.prog 12 = some .u64 := by kernel_rfl
theorem ag13 : agB Go.Proofs.Try.prog 13 = some true := by kernel_rfl
theorem sz13 : szB Go.Proofs.Try.prog 13 = some 2 := by kernel_rfl
theorem by13 : byB Go.Proofs.Try.prog 13 = some 24 := by kernel_rfl
theorem zr13 : zrB Go.Proofs.Try.prog 13 = some (.agg #[(.string ByteArray.empty), (.int .u64 0)]) := by kernel_rfl
theorem pl13 : V.plB Go.Proofs.Try.prog 13 = some [(0, 1), (1, 1)] := by kernel_rfl
theorem fd13_0 : fdB Go.Proofs.Try.prog 13 0 = some (0, 9, 0 + 1) := by kernel_rfl
theorem fd13_1 : fdB Go.Proofs.Try.prog 13 1 = some (1, 12, 0 + 1) := by kernel_rfl
theorem ag14 : agB Go.Proofs.Try.prog 14 = some true := by kernel_rfl
theorem sz14 : szB Go.Proofs.Try.prog 14 = some 2 := by kernel_rfl
theorem by14 : byB Go.Proofs.Try.prog 14 = some 24 := by kernel_rfl
theorem zr14 : zrB Go.Proofs.Try.prog 14 = some (.agg #[(.string ByteArray.empty), (.int .u64 0)]) := by kernel_rfl
theorem pl14 : V.plB Go.Proofs.Try.prog 14 = some [(0, 1), (1, 1)] := by kernel_rfl
theorem fd14_0 : fdB Go.Proofs.Try.prog 14 0 = some (0, 9, 0 + 1) := by kernel_rfl
theorem fd14_1 : fdB Go.Proofs.Try.prog 14 1 = some (1, 12, 0 + 1) := by kernel_rfl
theorem ag15 : agB Go.Proofs.Try.prog 15 = some false := by kernel_rfl
theorem sz15 : szB Go.Proofs.Try.prog 15 = some 1 := by kernel_rfl
theorem by15 : byB Go.Proofs.Try.prog 15 = some 8 := by kernel_rfl
theorem zr15 : zrB Go.Proofs.Try.prog 15 = some (.pointer none) := by kernel_rfl
theorem pt15 : ptB Go.Proofs.Try.prog 15 = some 205 := by kernel_rfl
theorem ag16 : agB Go.Proofs.Try.prog 16 = some false := by kernel_rfl
theorem sz16 : szB Go.Proofs.Try.prog 16 = some 1 := by kernel_rfl
theorem by16 : byB Go.Proofs.Try.prog 16 = some 8 := by kernel_rfl
theorem zr16 : zrB Go.Proofs.Try.prog 16 = some (.pointer none) := by kernel_rfl
theorem pt16 : ptB Go.Proofs.Try.prog 16 = some 208 := by kernel_rfl
theorem ag17 : agB Go.Proofs.Try.prog 17 = some false := by kernel_rfl
theorem sz17 : szB Go.Proofs.Try.prog 17 = some 1 := by kernel_rfl
theorem by17 : byB Go.Proofs.Try.prog 17 = some 8 := by kernel_rfl
theorem zr17 : zrB Go.Proofs.Try.prog 17 = some (.pointer none) := by kernel_rfl
theorem pt17 : ptB Go.Proofs.Try.prog 17 = some 216 := by kernel_rfl
theorem ag18 : agB Go.Proofs.Try.prog 18 = some true := by kernel_rfl
theorem sz18 : szB Go.Proofs.Try.prog 18 = some 1 := by kernel_rfl
theorem by18 : byB Go.Proofs.Try.prog 18 = some 8 := by kernel_rfl
theorem zr18 : zrB Go.Proofs.Try.prog 18 = some (.agg #[(.pointer none)]) := by kernel_rfl
theorem pl18 : V.plB Go.Proofs.Try.prog 18 = some [(0, 1)] := by kernel_rfl
theorem fd18_0 : fdB Go.Proofs.Try.prog 18 0 = some (0, 17, 0 + 1) := by kernel_rfl
theorem ag19 : agB Go.Proofs.Try.prog 19 = some true := by kernel_rfl
theorem sz19 : szB Go.Proofs.Try.prog 19 = some 1 := by kernel_rfl
theorem by19 : byB Go.Proofs.Try.prog 19 = some 8 := by kernel_rfl
theorem zr19 : zrB Go.Proofs.Try.prog 19 = some (.agg #[(.pointer none)]) := by kernel_rfl
theorem pl19 : V.plB Go.Proofs.Try.prog 19 = some [(0, 1)] := by kernel_rfl
theorem fd19_0 : fdB Go.Proofs.Try.prog 19 0 = some (0, 17, 0 + 1) := by kernel_rfl
theorem ag21 : agB Go.Proofs.Try.prog 21 = some false := by kernel_rfl
theorem sz21 : szB Go.Proofs.Try.prog 21 = some 1 := by kernel_rfl
theorem by21 : byB Go.Proofs.Try.prog 21 = some 4 := by kernel_rfl
theorem zr21 : zrB Go.Proofs.Try.prog 21 = some (.int .i32 0) := by kernel_rfl
theorem in21 : inB Go.Proofs.Try.prog 21 = some .i32 := by kernel_rfl
theorem ag22 : agB Go.Proofs.Try.prog 22 = some false := by kernel_rfl
theorem sz22 : szB Go.Proofs.Try.prog 22 = some 1 := by kernel_rfl
theorem by22 : byB Go.Proofs.Try.prog 22 = some 24 := by kernel_rfl
theorem zr22 : zrB Go.Proofs.Try.prog 22 = some (.slice none 0 0) := by kernel_rfl
theorem el22 : elB Go.Proofs.Try.prog 22 = some 5 := by kernel_rfl
theorem ag24 : agB Go.Proofs.Try.prog 24 = some false := by kernel_rfl
theorem sz24 : szB Go.Proofs.Try.prog 24 = some 1 := by kernel_rfl
theorem by24 : byB Go.Proofs.Try.prog 24 = some 24 := by kernel_rfl
theorem zr24 : zrB Go.Proofs.Try.prog 24 = some (.slice none 0 0) := by kernel_rfl
theorem el24 : elB Go.Proofs.Try.prog 24 = some 38 := by kernel_rfl
theorem ag25 : agB Go.Proofs.Try.prog 25 = some false := by kernel_rfl
theorem sz25 : szB Go.Proofs.Try.prog 25 = some 1 := by kernel_rfl
theorem by25 : byB Go.Proofs.Try.prog 25 = some 8 := by kernel_rfl
theorem zr25 : zrB Go.Proofs.Try.prog 25 = some (.int .u64 0) := by kernel_rfl
theorem in25 : inB Go.Proofs.Try.prog 25 = some .u64 := by kernel_rfl
theorem ag26 : agB Go.Proofs.Try.prog 26 = some false := by kernel_rfl
theorem sz26 : szB Go.Proofs.Try.prog 26 = some 1 := by kernel_rfl
theorem by26 : byB Go.Proofs.Try.prog 26 = some 8 := by kernel_rfl
theorem zr26 : zrB Go.Proofs.Try.prog 26 = some (.int .i64 0) := by kernel_rfl
theorem in26 : inB Go.Proofs.Try.prog 26 = some .i64 := by kernel_rfl
theorem ag37 : agB Go.Proofs.Try.prog 37 = some true := by kernel_rfl
theorem sz37 : szB Go.Proofs.Try.prog 37 = some 3 := by kernel_rfl
theorem by37 : byB Go.Proofs.Try.prog 37 = some 40 := by kernel_rfl
theorem zr37 : zrB Go.Proofs.Try.prog 37 = some (.agg #[(.int .i64 0), (.int .i64 0), (.slice none 0 0)]) := by kernel_rfl
theorem pl37 : V.plB Go.Proofs.Try.prog 37 = some [(0, 1), (1, 1), (2, 1)] := by kernel_rfl
theorem fd37_0 : fdB Go.Proofs.Try.prog 37 0 = some (0, 3, 0 + 1) := by kernel_rfl
theorem fd37_1 : fdB Go.Proofs.Try.prog 37 1 = some (1, 3, 0 + 1) := by kernel_rfl
theorem fd37_2 : fdB Go.Proofs.Try.prog 37 2 = some (2, 22, 0 + 1) := by kernel_rfl
theorem ag38 : agB Go.Proofs.Try.prog 38 = some true := by kernel_rfl
theorem sz38 : szB Go.Proofs.Try.prog 38 = some 3 := by kernel_rfl
theorem by38 : byB Go.Proofs.Try.prog 38 = some 40 := by kernel_rfl
theorem zr38 : zrB Go.Proofs.Try.prog 38 = some (.agg #[(.int .i64 0), (.int .i64 0), (.slice none 0 0)]) := by kernel_rfl
theorem pl38 : V.plB Go.Proofs.Try.prog 38 = some [(0, 1), (1, 1), (2, 1)] := by kernel_rfl
theorem fd38_0 : fdB Go.Proofs.Try.prog 38 0 = some (0, 3, 0 + 1) := by kernel_rfl
theorem fd38_1 : fdB Go.Proofs.Try.prog 38 1 = some (1, 3, 0 + 1) := by kernel_rfl
theorem fd38_2 : fdB Go.Proofs.Try.prog 38 2 = some (2, 22, 0 + 1) := by kernel_rfl
theorem ag49 : agB Go.Proofs.Try.prog 49 = some true := by kernel_rfl
theorem sz49 : szB Go.Proofs.Try.prog 49 = some 3 := by kernel_rfl
theorem by49 : byB Go.Proofs.Try.prog 49 = some 40 := by kernel_rfl
theorem zr49 : zrB Go.Proofs.Try.prog 49 = some (.agg #[(.int .i64 0), (.int .u64 0), (.slice none 0 0)]) := by kernel_rfl
theorem pl49 : V.plB Go.Proofs.Try.prog 49 = some [(0, 1), (1, 1), (2, 1)] := by kernel_rfl
theorem fd49_0 : fdB Go.Proofs.Try.prog 49 0 = some (0, 3, 0 + 1) := by kernel_rfl
theorem fd49_1 : fdB Go.Proofs.Try.prog 49 1 = some (1, 25, 0 + 1) := by kernel_rfl
theorem fd49_2 : fdB Go.Proofs.Try.prog 49 2 = some (2, 24, 0 + 1) := by kernel_rfl
theorem ag50 : agB Go.Proofs.Try.prog 50 = some true := by kernel_rfl
theorem sz50 : szB Go.Proofs.Try.prog 50 = some 3 := by kernel_rfl
theorem by50 : byB Go.Proofs.Try.prog 50 = some 40 := by kernel_rfl
theorem zr50 : zrB Go.Proofs.Try.prog 50 = some (.agg #[(.int .i64 0), (.int .u64 0), (.slice none 0 0)]) := by kernel_rfl
theorem pl50 : V.plB Go.Proofs.Try.prog 50 = some [(0, 1), (1, 1), (2, 1)] := by kernel_rfl
theorem fd50_0 : fdB Go.Proofs.Try.prog 50 0 = some (0, 3, 0 + 1) := by kernel_rfl
theorem fd50_1 : fdB Go.Proofs.Try.prog 50 1 = some (1, 25, 0 + 1) := by kernel_rfl
theorem fd50_2 : fdB Go.Proofs.Try.prog 50 2 = some (2, 24, 0 + 1) := by kernel_rfl
theorem ag57 : agB Go.Proofs.Try.prog 57 = some false := by kernel_rfl
theorem sz57 : szB Go.Proofs.Try.prog 57 = some 1 := by kernel_rfl
theorem by57 : byB Go.Proofs.Try.prog 57 = some 8 := by kernel_rfl
theorem zr57 : zrB Go.Proofs.Try.prog 57 = some (.pointer none) := by kernel_rfl
theorem pt57 : ptB Go.Proofs.Try.prog 57 = some 113 := by kernel_rfl
theorem ag65 : agB Go.Proofs.Try.prog 65 = some false := by kernel_rfl
theorem sz65 : szB Go.Proofs.Try.prog 65 = some 1 := by kernel_rfl
theorem by65 : byB Go.Proofs.Try.prog 65 = some 24 := by kernel_rfl
theorem zr65 : zrB Go.Proofs.Try.prog 65 = some (.slice none 0 0) := by kernel_rfl
theorem el65 : elB Go.Proofs.Try.prog 65 = some 73 := by kernel_rfl
theorem ag66 : agB Go.Proofs.Try.prog 66 = some false := by kernel_rfl
theorem sz66 : szB Go.Proofs.Try.prog 66 = some 1 := by kernel_rfl
theorem by66 : byB Go.Proofs.Try.prog 66 = some 24 := by kernel_rfl
theorem zr66 : zrB Go.Proofs.Try.prog 66 = some (.slice none 0 0) := by kernel_rfl
theorem el66 : elB Go.Proofs.Try.prog 66 = some 86 := by kernel_rfl
theorem ag67 : agB Go.Proofs.Try.prog 67 = some false := by kernel_rfl
theorem sz67 : szB Go.Proofs.Try.prog 67 = some 1 := by kernel_rfl
theorem by67 : byB Go.Proofs.Try.prog 67 = some 24 := by kernel_rfl
theorem zr67 : zrB Go.Proofs.Try.prog 67 = some (.slice none 0 0) := by kernel_rfl
theorem el67 : elB Go.Proofs.Try.prog 67 = some 152 := by kernel_rfl
theorem ag68 : agB Go.Proofs.Try.prog 68 = some true := by kernel_rfl
theorem sz68 : szB Go.Proofs.Try.prog 68 = some 6 := by kernel_rfl
theorem by68 : byB Go.Proofs.Try.prog 68 = some 96 := by kernel_rfl
theorem zr68 : zrB Go.Proofs.Try.prog 68 = some (.agg #[(.slice none 0 0), (.slice none 0 0), (.slice none 0 0), (.int .i64 0), (.bool false), (.int .i64 0)]) := by kernel_rfl
theorem pl68 : V.plB Go.Proofs.Try.prog 68 = some [(0, 1), (1, 1), (2, 1), (3, 1), (4, 1), (5, 1)] := by kernel_rfl
theorem fd68_0 : fdB Go.Proofs.Try.prog 68 0 = some (0, 66, 0 + 1) := by kernel_rfl
theorem fd68_1 : fdB Go.Proofs.Try.prog 68 1 = some (1, 66, 0 + 1) := by kernel_rfl
theorem fd68_2 : fdB Go.Proofs.Try.prog 68 2 = some (2, 67, 0 + 1) := by kernel_rfl
theorem fd68_3 : fdB Go.Proofs.Try.prog 68 3 = some (3, 3, 0 + 1) := by kernel_rfl
theorem fd68_4 : fdB Go.Proofs.Try.prog 68 4 = some (4, 4, 0 + 1) := by kernel_rfl
theorem fd68_5 : fdB Go.Proofs.Try.prog 68 5 = some (5, 3, 0 + 1) := by kernel_rfl
theorem ag69 : agB Go.Proofs.Try.prog 69 = some true := by kernel_rfl
theorem sz69 : szB Go.Proofs.Try.prog 69 = some 6 := by kernel_rfl
theorem by69 : byB Go.Proofs.Try.prog 69 = some 96 := by kernel_rfl
theorem zr69 : zrB Go.Proofs.Try.prog 69 = some (.agg #[(.slice none 0 0), (.slice none 0 0), (.slice none 0 0), (.int .i64 0), (.bool false), (.int .i64 0)]) := by kernel_rfl
theorem pl69 : V.plB Go.Proofs.Try.prog 69 = some [(0, 1), (1, 1), (2, 1), (3, 1), (4, 1), (5, 1)] := by kernel_rfl
theorem fd69_0 : fdB Go.Proofs.Try.prog 69 0 = some (0, 66, 0 + 1) := by kernel_rfl
theorem fd69_1 : fdB Go.Proofs.Try.prog 69 1 = some (1, 66, 0 + 1) := by kernel_rfl
theorem fd69_2 : fdB Go.Proofs.Try.prog 69 2 = some (2, 67, 0 + 1) := by kernel_rfl
theorem fd69_3 : fdB Go.Proofs.Try.prog 69 3 = some (3, 3, 0 + 1) := by kernel_rfl
theorem fd69_4 : fdB Go.Proofs.Try.prog 69 4 = some (4, 4, 0 + 1) := by kernel_rfl
theorem fd69_5 : fdB Go.Proofs.Try.prog 69 5 = some (5, 3, 0 + 1) := by kernel_rfl
theorem ag72 : agB Go.Proofs.Try.prog 72 = some true := by kernel_rfl
theorem sz72 : szB Go.Proofs.Try.prog 72 = some 5 := by kernel_rfl
theorem by72 : byB Go.Proofs.Try.prog 72 = some 64 := by kernel_rfl
theorem zr72 : zrB Go.Proofs.Try.prog 72 = some (.agg #[(.int .u8 0), (.string ByteArray.empty), (.int .i64 0), (.int .i64 0), (.slice none 0 0)]) := by kernel_rfl
theorem pl72 : V.plB Go.Proofs.Try.prog 72 = some [(0, 1), (1, 1), (2, 1), (3, 1), (4, 1)] := by kernel_rfl
theorem fd72_0 : fdB Go.Proofs.Try.prog 72 0 = some (0, 5, 0 + 1) := by kernel_rfl
theorem fd72_1 : fdB Go.Proofs.Try.prog 72 1 = some (1, 9, 0 + 1) := by kernel_rfl
theorem fd72_2 : fdB Go.Proofs.Try.prog 72 2 = some (2, 3, 0 + 1) := by kernel_rfl
theorem fd72_3 : fdB Go.Proofs.Try.prog 72 3 = some (3, 3, 0 + 1) := by kernel_rfl
theorem fd72_4 : fdB Go.Proofs.Try.prog 72 4 = some (4, 22, 0 + 1) := by kernel_rfl
theorem ag73 : agB Go.Proofs.Try.prog 73 = some true := by kernel_rfl
theorem sz73 : szB Go.Proofs.Try.prog 73 = some 5 := by kernel_rfl
theorem by73 : byB Go.Proofs.Try.prog 73 = some 64 := by kernel_rfl
theorem zr73 : zrB Go.Proofs.Try.prog 73 = some (.agg #[(.int .u8 0), (.string ByteArray.empty), (.int .i64 0), (.int .i64 0), (.slice none 0 0)]) := by kernel_rfl
theorem pl73 : V.plB Go.Proofs.Try.prog 73 = some [(0, 1), (1, 1), (2, 1), (3, 1), (4, 1)] := by kernel_rfl
theorem fd73_0 : fdB Go.Proofs.Try.prog 73 0 = some (0, 5, 0 + 1) := by kernel_rfl
theorem fd73_1 : fdB Go.Proofs.Try.prog 73 1 = some (1, 9, 0 + 1) := by kernel_rfl
theorem fd73_2 : fdB Go.Proofs.Try.prog 73 2 = some (2, 3, 0 + 1) := by kernel_rfl
theorem fd73_3 : fdB Go.Proofs.Try.prog 73 3 = some (3, 3, 0 + 1) := by kernel_rfl
theorem fd73_4 : fdB Go.Proofs.Try.prog 73 4 = some (4, 22, 0 + 1) := by kernel_rfl
theorem ag82 : agB Go.Proofs.Try.prog 82 = some false := by kernel_rfl
theorem sz82 : szB Go.Proofs.Try.prog 82 = some 1 := by kernel_rfl
theorem by82 : byB Go.Proofs.Try.prog 82 = some 24 := by kernel_rfl
theorem zr82 : zrB Go.Proofs.Try.prog 82 = some (.slice none 0 0) := by kernel_rfl
theorem el82 : elB Go.Proofs.Try.prog 82 = some 9 := by kernel_rfl
theorem ag85 : agB Go.Proofs.Try.prog 85 = some true := by kernel_rfl
theorem sz85 : szB Go.Proofs.Try.prog 85 = some 2 := by kernel_rfl
theorem by85 : byB Go.Proofs.Try.prog 85 = some 40 := by kernel_rfl
theorem zr85 : zrB Go.Proofs.Try.prog 85 = some (.agg #[(.string ByteArray.empty), (.slice none 0 0)]) := by kernel_rfl
theorem pl85 : V.plB Go.Proofs.Try.prog 85 = some [(0, 1), (1, 1)] := by kernel_rfl
theorem fd85_0 : fdB Go.Proofs.Try.prog 85 0 = some (0, 9, 0 + 1) := by kernel_rfl
theorem fd85_1 : fdB Go.Proofs.Try.prog 85 1 = some (1, 22, 0 + 1) := by kernel_rfl
theorem ag86 : agB Go.Proofs.Try.prog 86 = some true := by kernel_rfl
theorem sz86 : szB Go.Proofs.Try.prog 86 = some 2 := by kernel_rfl
theorem by86 : byB Go.Proofs.Try.prog 86 = some 40 := by kernel_rfl
theorem zr86 : zrB Go.Proofs.Try.prog 86 = some (.agg #[(.string ByteArray.empty), (.slice none 0 0)]) := by kernel_rfl
theorem pl86 : V.plB Go.Proofs.Try.prog 86 = some [(0, 1), (1, 1)] := by kernel_rfl
theorem fd86_0 : fdB Go.Proofs.Try.prog 86 0 = some (0, 9, 0 + 1) := by kernel_rfl
theorem fd86_1 : fdB Go.Proofs.Try.prog 86 1 = some (1, 22, 0 + 1) := by kernel_rfl
theorem ag90 : agB Go.Proofs.Try.prog 90 = some false := by kernel_rfl
theorem sz90 : szB Go.Proofs.Try.prog 90 = some 1 := by kernel_rfl
theorem by90 : byB Go.Proofs.Try.prog 90 = some 8 := by kernel_rfl
theorem zr90 : zrB Go.Proofs.Try.prog 90 = some (.pointer none) := by kernel_rfl
theorem pt90 : ptB Go.Proofs.Try.prog 90 = some 92 := by kernel_rfl
theorem ag91 : agB Go.Proofs.Try.prog 91 = some true := by kernel_rfl
theorem sz91 : szB Go.Proofs.Try.prog 91 = some 5 := by kernel_rfl
theorem by91 : byB Go.Proofs.Try.prog 91 = some 56 := by kernel_rfl
theorem zr91 : zrB Go.Proofs.Try.prog 91 = some (.agg #[(.slice none 0 0), (.int .i64 0), (.int .i64 0), (.int .u64 0), (.int .u64 0)]) := by kernel_rfl
theorem pl91 : V.plB Go.Proofs.Try.prog 91 = some [(0, 1), (1, 1), (2, 1), (3, 1), (4, 1)] := by kernel_rfl
theorem fd91_0 : fdB Go.Proofs.Try.prog 91 0 = some (0, 22, 0 + 1) := by kernel_rfl
theorem fd91_1 : fdB Go.Proofs.Try.prog 91 1 = some (1, 3, 0 + 1) := by kernel_rfl
theorem fd91_2 : fdB Go.Proofs.Try.prog 91 2 = some (2, 3, 0 + 1) := by kernel_rfl
theorem fd91_3 : fdB Go.Proofs.Try.prog 91 3 = some (3, 25, 0 + 1) := by kernel_rfl
theorem fd91_4 : fdB Go.Proofs.Try.prog 91 4 = some (4, 25, 0 + 1) := by kernel_rfl
theorem ag92 : agB Go.Proofs.Try.prog 92 = some true := by kernel_rfl
theorem sz92 : szB Go.Proofs.Try.prog 92 = some 5 := by kernel_rfl
theorem by92 : byB Go.Proofs.Try.prog 92 = some 56 := by kernel_rfl
theorem zr92 : zrB Go.Proofs.Try.prog 92 = some (.agg #[(.slice none 0 0), (.int .i64 0), (.int .i64 0), (.int .u64 0), (.int .u64 0)]) := by kernel_rfl
theorem pl92 : V.plB Go.Proofs.Try.prog 92 = some [(0, 1), (1, 1), (2, 1), (3, 1), (4, 1)] := by kernel_rfl
theorem fd92_0 : fdB Go.Proofs.Try.prog 92 0 = some (0, 22, 0 + 1) := by kernel_rfl
theorem fd92_1 : fdB Go.Proofs.Try.prog 92 1 = some (1, 3, 0 + 1) := by kernel_rfl
theorem fd92_2 : fdB Go.Proofs.Try.prog 92 2 = some (2, 3, 0 + 1) := by kernel_rfl
theorem fd92_3 : fdB Go.Proofs.Try.prog 92 3 = some (3, 25, 0 + 1) := by kernel_rfl
theorem fd92_4 : fdB Go.Proofs.Try.prog 92 4 = some (4, 25, 0 + 1) := by kernel_rfl
theorem ag100 : agB Go.Proofs.Try.prog 100 = some false := by kernel_rfl
theorem sz100 : szB Go.Proofs.Try.prog 100 = some 1 := by kernel_rfl
theorem by100 : byB Go.Proofs.Try.prog 100 = some 8 := by kernel_rfl
theorem zr100 : zrB Go.Proofs.Try.prog 100 = some (.map none) := by kernel_rfl
theorem mp100 : mpB Go.Proofs.Try.prog 100 = some (3, 38) := by kernel_rfl
theorem ag101 : agB Go.Proofs.Try.prog 101 = some false := by kernel_rfl
theorem sz101 : szB Go.Proofs.Try.prog 101 = some 1 := by kernel_rfl
theorem by101 : byB Go.Proofs.Try.prog 101 = some 24 := by kernel_rfl
theorem zr101 : zrB Go.Proofs.Try.prog 101 = some (.slice none 0 0) := by kernel_rfl
theorem el101 : elB Go.Proofs.Try.prog 101 = some 3 := by kernel_rfl
theorem ag111 : agB Go.Proofs.Try.prog 111 = some false := by kernel_rfl
theorem sz111 : szB Go.Proofs.Try.prog 111 = some 1 := by kernel_rfl
theorem by111 : byB Go.Proofs.Try.prog 111 = some 8 := by kernel_rfl
theorem zr111 : zrB Go.Proofs.Try.prog 111 = some (.map none) := by kernel_rfl
theorem mp111 : mpB Go.Proofs.Try.prog 111 = some (9, 118) := by kernel_rfl
theorem ag112 : agB Go.Proofs.Try.prog 112 = some true := by kernel_rfl
theorem sz112 : szB Go.Proofs.Try.prog 112 = some 4 := by kernel_rfl
theorem by112 : byB Go.Proofs.Try.prog 112 = some 32 := by kernel_rfl
theorem zr112 : zrB Go.Proofs.Try.prog 112 = some (.agg #[(.map none), (.bool false), (.int .i64 0), (.int .i64 0)]) := by kernel_rfl
theorem pl112 : V.plB Go.Proofs.Try.prog 112 = some [(0, 1), (1, 1), (2, 1), (3, 1)] := by kernel_rfl
theorem fd112_0 : fdB Go.Proofs.Try.prog 112 0 = some (0, 111, 0 + 1) := by kernel_rfl
theorem fd112_1 : fdB Go.Proofs.Try.prog 112 1 = some (1, 4, 0 + 1) := by kernel_rfl
theorem fd112_2 : fdB Go.Proofs.Try.prog 112 2 = some (2, 3, 0 + 1) := by kernel_rfl
theorem fd112_3 : fdB Go.Proofs.Try.prog 112 3 = some (3, 3, 0 + 1) := by kernel_rfl
theorem ag113 : agB Go.Proofs.Try.prog 113 = some true := by kernel_rfl
theorem sz113 : szB Go.Proofs.Try.prog 113 = some 4 := by kernel_rfl
theorem by113 : byB Go.Proofs.Try.prog 113 = some 32 := by kernel_rfl
theorem zr113 : zrB Go.Proofs.Try.prog 113 = some (.agg #[(.map none), (.bool false), (.int .i64 0), (.int .i64 0)]) := by kernel_rfl
theorem pl113 : V.plB Go.Proofs.Try.prog 113 = some [(0, 1), (1, 1), (2, 1), (3, 1)] := by kernel_rfl
theorem fd113_0 : fdB Go.Proofs.Try.prog 113 0 = some (0, 111, 0 + 1) := by kernel_rfl
theorem fd113_1 : fdB Go.Proofs.Try.prog 113 1 = some (1, 4, 0 + 1) := by kernel_rfl
theorem fd113_2 : fdB Go.Proofs.Try.prog 113 2 = some (2, 3, 0 + 1) := by kernel_rfl
theorem fd113_3 : fdB Go.Proofs.Try.prog 113 3 = some (3, 3, 0 + 1) := by kernel_rfl
theorem ag116 : agB Go.Proofs.Try.prog 116 = some true := by kernel_rfl
theorem sz116 : szB Go.Proofs.Try.prog 116 = some 3 := by kernel_rfl
theorem by116 : byB Go.Proofs.Try.prog 116 = some 40 := by kernel_rfl
theorem zr116 : zrB Go.Proofs.Try.prog 116 = some (.agg #[(.int .i64 0), (.int .i64 0), (.slice none 0 0)]) := by kernel_rfl
theorem pl116 : V.plB Go.Proofs.Try.prog 116 = some [(0, 1), (1, 1), (2, 1)] := by kernel_rfl
theorem fd116_0 : fdB Go.Proofs.Try.prog 116 0 = some (0, 3, 0 + 1) := by kernel_rfl
theorem fd116_1 : fdB Go.Proofs.Try.prog 116 1 = some (1, 3, 0 + 1) := by kernel_rfl
theorem fd116_2 : fdB Go.Proofs.Try.prog 116 2 = some (2, 22, 0 + 1) := by kernel_rfl
theorem ag117 : agB Go.Proofs.Try.prog 117 = some true := by kernel_rfl
theorem sz117 : szB Go.Proofs.Try.prog 117 = some 3 := by kernel_rfl
theorem by117 : byB Go.Proofs.Try.prog 117 = some 40 := by kernel_rfl
theorem zr117 : zrB Go.Proofs.Try.prog 117 = some (.agg #[(.int .i64 0), (.int .i64 0), (.slice none 0 0)]) := by kernel_rfl
theorem pl117 : V.plB Go.Proofs.Try.prog 117 = some [(0, 1), (1, 1), (2, 1)] := by kernel_rfl
theorem fd117_0 : fdB Go.Proofs.Try.prog 117 0 = some (0, 3, 0 + 1) := by kernel_rfl
theorem fd117_1 : fdB Go.Proofs.Try.prog 117 1 = some (1, 3, 0 + 1) := by kernel_rfl
theorem fd117_2 : fdB Go.Proofs.Try.prog 117 2 = some (2, 22, 0 + 1) := by kernel_rfl
theorem ag118 : agB Go.Proofs.Try.prog 118 = some false := by kernel_rfl
theorem sz118 : szB Go.Proofs.Try.prog 118 = some 1 := by kernel_rfl
theorem by118 : byB Go.Proofs.Try.prog 118 = some 8 := by kernel_rfl
theorem zr118 : zrB Go.Proofs.Try.prog 118 = some (.pointer none) := by kernel_rfl
theorem pt118 : ptB Go.Proofs.Try.prog 118 = some 122 := by kernel_rfl
theorem ag120 : agB Go.Proofs.Try.prog 120 = some false := by kernel_rfl
theorem sz120 : szB Go.Proofs.Try.prog 120 = some 1 := by kernel_rfl
theorem by120 : byB Go.Proofs.Try.prog 120 = some 24 := by kernel_rfl
theorem zr120 : zrB Go.Proofs.Try.prog 120 = some (.slice none 0 0) := by kernel_rfl
theorem el120 : elB Go.Proofs.Try.prog 120 = some 117 := by kernel_rfl
theorem ag121 : agB Go.Proofs.Try.prog 121 = some true := by kernel_rfl
theorem sz121 : szB Go.Proofs.Try.prog 121 = some 5 := by kernel_rfl
theorem by121 : byB Go.Proofs.Try.prog 121 = some 80 := by kernel_rfl
theorem zr121 : zrB Go.Proofs.Try.prog 121 = some (.agg #[(.slice none 0 0), (.slice none 0 0), (.bool false), (.bool false), (.slice none 0 0)]) := by kernel_rfl
theorem pl121 : V.plB Go.Proofs.Try.prog 121 = some [(0, 1), (1, 1), (2, 1), (3, 1), (4, 1)] := by kernel_rfl
theorem fd121_0 : fdB Go.Proofs.Try.prog 121 0 = some (0, 22, 0 + 1) := by kernel_rfl
theorem fd121_1 : fdB Go.Proofs.Try.prog 121 1 = some (1, 22, 0 + 1) := by kernel_rfl
theorem fd121_2 : fdB Go.Proofs.Try.prog 121 2 = some (2, 4, 0 + 1) := by kernel_rfl
theorem fd121_3 : fdB Go.Proofs.Try.prog 121 3 = some (3, 4, 0 + 1) := by kernel_rfl
theorem fd121_4 : fdB Go.Proofs.Try.prog 121 4 = some (4, 120, 0 + 1) := by kernel_rfl
theorem ag122 : agB Go.Proofs.Try.prog 122 = some true := by kernel_rfl
theorem sz122 : szB Go.Proofs.Try.prog 122 = some 5 := by kernel_rfl
theorem by122 : byB Go.Proofs.Try.prog 122 = some 80 := by kernel_rfl
theorem zr122 : zrB Go.Proofs.Try.prog 122 = some (.agg #[(.slice none 0 0), (.slice none 0 0), (.bool false), (.bool false), (.slice none 0 0)]) := by kernel_rfl
theorem pl122 : V.plB Go.Proofs.Try.prog 122 = some [(0, 1), (1, 1), (2, 1), (3, 1), (4, 1)] := by kernel_rfl
theorem fd122_0 : fdB Go.Proofs.Try.prog 122 0 = some (0, 22, 0 + 1) := by kernel_rfl
theorem fd122_1 : fdB Go.Proofs.Try.prog 122 1 = some (1, 22, 0 + 1) := by kernel_rfl
theorem fd122_2 : fdB Go.Proofs.Try.prog 122 2 = some (2, 4, 0 + 1) := by kernel_rfl
theorem fd122_3 : fdB Go.Proofs.Try.prog 122 3 = some (3, 4, 0 + 1) := by kernel_rfl
theorem fd122_4 : fdB Go.Proofs.Try.prog 122 4 = some (4, 120, 0 + 1) := by kernel_rfl
theorem ag141 : agB Go.Proofs.Try.prog 141 = some true := by kernel_rfl
theorem sz141 : szB Go.Proofs.Try.prog 141 = some 4 := by kernel_rfl
theorem by141 : byB Go.Proofs.Try.prog 141 = some 4 := by kernel_rfl
theorem zr141 : zrB Go.Proofs.Try.prog 141 = some (.agg #[(.int .u8 0), (.int .u8 0), (.int .u8 0), (.int .u8 0)]) := by kernel_rfl
theorem ar141 : arB Go.Proofs.Try.prog 141 = some (4, 5) := by kernel_rfl
theorem ag143 : agB Go.Proofs.Try.prog 143 = some false := by kernel_rfl
theorem sz143 : szB Go.Proofs.Try.prog 143 = some 1 := by kernel_rfl
theorem by143 : byB Go.Proofs.Try.prog 143 = some 24 := by kernel_rfl
theorem zr143 : zrB Go.Proofs.Try.prog 143 = some (.slice none 0 0) := by kernel_rfl
theorem el143 : elB Go.Proofs.Try.prog 143 = some 22 := by kernel_rfl
theorem ag145 : agB Go.Proofs.Try.prog 145 = some false := by kernel_rfl
theorem sz145 : szB Go.Proofs.Try.prog 145 = some 1 := by kernel_rfl
theorem by145 : byB Go.Proofs.Try.prog 145 = some 4 := by kernel_rfl
theorem zr145 : zrB Go.Proofs.Try.prog 145 = some (.int .u32 0) := by kernel_rfl
theorem in145 : inB Go.Proofs.Try.prog 145 = some .u32 := by kernel_rfl
theorem ag151 : agB Go.Proofs.Try.prog 151 = some true := by kernel_rfl
theorem sz151 : szB Go.Proofs.Try.prog 151 = some 4 := by kernel_rfl
theorem by151 : byB Go.Proofs.Try.prog 151 = some 56 := by kernel_rfl
theorem zr151 : zrB Go.Proofs.Try.prog 151 = some (.agg #[(.int .i64 0), (.int .i64 0), (.string ByteArray.empty), (.slice none 0 0)]) := by kernel_rfl
theorem pl151 : V.plB Go.Proofs.Try.prog 151 = some [(0, 1), (1, 1), (2, 1), (3, 1)] := by kernel_rfl
theorem fd151_0 : fdB Go.Proofs.Try.prog 151 0 = some (0, 3, 0 + 1) := by kernel_rfl
theorem fd151_1 : fdB Go.Proofs.Try.prog 151 1 = some (1, 3, 0 + 1) := by kernel_rfl
theorem fd151_2 : fdB Go.Proofs.Try.prog 151 2 = some (2, 9, 0 + 1) := by kernel_rfl
theorem fd151_3 : fdB Go.Proofs.Try.prog 151 3 = some (3, 22, 0 + 1) := by kernel_rfl
theorem ag152 : agB Go.Proofs.Try.prog 152 = some true := by kernel_rfl
theorem sz152 : szB Go.Proofs.Try.prog 152 = some 4 := by kernel_rfl
theorem by152 : byB Go.Proofs.Try.prog 152 = some 56 := by kernel_rfl
theorem zr152 : zrB Go.Proofs.Try.prog 152 = some (.agg #[(.int .i64 0), (.int .i64 0), (.string ByteArray.empty), (.slice none 0 0)]) := by kernel_rfl
theorem pl152 : V.plB Go.Proofs.Try.prog 152 = some [(0, 1), (1, 1), (2, 1), (3, 1)] := by kernel_rfl
theorem fd152_0 : fdB Go.Proofs.Try.prog 152 0 = some (0, 3, 0 + 1) := by kernel_rfl
theorem fd152_1 : fdB Go.Proofs.Try.prog 152 1 = some (1, 3, 0 + 1) := by kernel_rfl
theorem fd152_2 : fdB Go.Proofs.Try.prog 152 2 = some (2, 9, 0 + 1) := by kernel_rfl
theorem fd152_3 : fdB Go.Proofs.Try.prog 152 3 = some (3, 22, 0 + 1) := by kernel_rfl
theorem ag168 : agB Go.Proofs.Try.prog 168 = some false := by kernel_rfl
theorem sz168 : szB Go.Proofs.Try.prog 168 = some 1 := by kernel_rfl
theorem by168 : byB Go.Proofs.Try.prog 168 = some 8 := by kernel_rfl
theorem zr168 : zrB Go.Proofs.Try.prog 168 = some (.int .u64 0) := by kernel_rfl
theorem in168 : inB Go.Proofs.Try.prog 168 = some .u64 := by kernel_rfl
theorem ag173 : agB Go.Proofs.Try.prog 173 = some false := by kernel_rfl
theorem sz173 : szB Go.Proofs.Try.prog 173 = some 1 := by kernel_rfl
theorem by173 : byB Go.Proofs.Try.prog 173 = some 8 := by kernel_rfl
theorem zr173 : zrB Go.Proofs.Try.prog 173 = some (.int .i64 0) := by kernel_rfl
theorem in173 : inB Go.Proofs.Try.prog 173 = some .i64 := by kernel_rfl
theorem ag181 : agB Go.Proofs.Try.prog 181 = some true := by kernel_rfl
theorem sz181 : szB Go.Proofs.Try.prog 181 = some 16 := by kernel_rfl
theorem by181 : byB Go.Proofs.Try.prog 181 = some 64 := by kernel_rfl
theorem zr181 : zrB Go.Proofs.Try.prog 181 = some (.agg #[(.int .u32 0), (.int .u32 0), (.int .u32 0), (.int .u32 0), (.int .u32 0), (.int .u32 0), (.int .u32 0), (.int .u32 0), (.int .u32 0), (.int .u32 0), (.int .u32 0), (.int .u32 0), (.int .u32 0), (.int .u32 0), (.int .u32 0), (.int .u32 0)]) := by kernel_rfl
theorem ar181 : arB Go.Proofs.Try.prog 181 = some (16, 145) := by kernel_rfl
theorem ag185 : agB Go.Proofs.Try.prog 185 = some false := by kernel_rfl
theorem sz185 : szB Go.Proofs.Try.prog 185 = some 1 := by kernel_rfl
theorem by185 : byB Go.Proofs.Try.prog 185 = some 8 := by kernel_rfl
theorem zr185 : zrB Go.Proofs.Try.prog 185 = some (.int .u64 0) := by kernel_rfl
theorem in185 : inB Go.Proofs.Try.prog 185 = some .u64 := by kernel_rfl
theorem ag189 : agB Go.Proofs.Try.prog 189 = some false := by kernel_rfl
theorem sz189 : szB Go.Proofs.Try.prog 189 = some 1 := by kernel_rfl
theorem by189 : byB Go.Proofs.Try.prog 189 = some 8 := by kernel_rfl
theorem zr189 : zrB Go.Proofs.Try.prog 189 = some (.pointer none) := by kernel_rfl
theorem pt189 : ptB Go.Proofs.Try.prog 189 = some 3 := by kernel_rfl
theorem ag197 : agB Go.Proofs.Try.prog 197 = some false := by kernel_rfl
theorem sz197 : szB Go.Proofs.Try.prog 197 = some 1 := by kernel_rfl
theorem by197 : byB Go.Proofs.Try.prog 197 = some 8 := by kernel_rfl
theorem zr197 : zrB Go.Proofs.Try.prog 197 = some (.pointer none) := by kernel_rfl
theorem pt197 : ptB Go.Proofs.Try.prog 197 = some 185 := by kernel_rfl
theorem ag204 : agB Go.Proofs.Try.prog 204 = some true := by kernel_rfl
theorem sz204 : szB Go.Proofs.Try.prog 204 = some 4 := by kernel_rfl
theorem by204 : byB Go.Proofs.Try.prog 204 = some 40 := by kernel_rfl
theorem zr204 : zrB Go.Proofs.Try.prog 204 = some (.agg #[(.pointer none), (.pointer none), (.pointer none), (.string ByteArray.empty)]) := by kernel_rfl
theorem pl204 : V.plB Go.Proofs.Try.prog 204 = some [(0, 1), (1, 1), (2, 1), (3, 1)] := by kernel_rfl
theorem fd204_0 : fdB Go.Proofs.Try.prog 204 0 = some (0, 17, 0 + 1) := by kernel_rfl
theorem fd204_1 : fdB Go.Proofs.Try.prog 204 1 = some (1, 17, 0 + 1) := by kernel_rfl
theorem fd204_2 : fdB Go.Proofs.Try.prog 204 2 = some (2, 17, 0 + 1) := by kernel_rfl
theorem fd204_3 : fdB Go.Proofs.Try.prog 204 3 = some (3, 9, 0 + 1) := by kernel_rfl
theorem ag205 : agB Go.Proofs.Try.prog 205 = some true := by kernel_rfl
theorem sz205 : szB Go.Proofs.Try.prog 205 = some 4 := by kernel_rfl
theorem by205 : byB Go.Proofs.Try.prog 205 = some 40 := by kernel_rfl
theorem zr205 : zrB Go.Proofs.Try.prog 205 = some (.agg #[(.pointer none), (.pointer none), (.pointer none), (.string ByteArray.empty)]) := by kernel_rfl
theorem pl205 : V.plB Go.Proofs.Try.prog 205 = some [(0, 1), (1, 1), (2, 1), (3, 1)] := by kernel_rfl
theorem fd205_0 : fdB Go.Proofs.Try.prog 205 0 = some (0, 17, 0 + 1) := by kernel_rfl
theorem fd205_1 : fdB Go.Proofs.Try.prog 205 1 = some (1, 17, 0 + 1) := by kernel_rfl
theorem fd205_2 : fdB Go.Proofs.Try.prog 205 2 = some (2, 17, 0 + 1) := by kernel_rfl
theorem fd205_3 : fdB Go.Proofs.Try.prog 205 3 = some (3, 9, 0 + 1) := by kernel_rfl
theorem ag206 : agB Go.Proofs.Try.prog 206 = some true := by kernel_rfl
theorem sz206 : szB Go.Proofs.Try.prog 206 = some 0 := by kernel_rfl
theorem by206 : byB Go.Proofs.Try.prog 206 = some 0 := by kernel_rfl
theorem zr206 : zrB Go.Proofs.Try.prog 206 = some (.agg #[]) := by kernel_rfl
theorem ar206 : arB Go.Proofs.Try.prog 206 = some (0, 16) := by kernel_rfl
theorem ag207 : agB Go.Proofs.Try.prog 207 = some true := by kernel_rfl
theorem sz207 : szB Go.Proofs.Try.prog 207 = some 0 := by kernel_rfl
theorem by207 : byB Go.Proofs.Try.prog 207 = some 0 := by kernel_rfl
theorem zr207 : zrB Go.Proofs.Try.prog 207 = some (.agg #[]) := by kernel_rfl
theorem pl207 : V.plB Go.Proofs.Try.prog 207 = some [(0, 0)] := by kernel_rfl
theorem ag208 : agB Go.Proofs.Try.prog 208 = some true := by kernel_rfl
theorem sz208 : szB Go.Proofs.Try.prog 208 = some 0 := by kernel_rfl
theorem by208 : byB Go.Proofs.Try.prog 208 = some 0 := by kernel_rfl
theorem zr208 : zrB Go.Proofs.Try.prog 208 = some (.agg #[]) := by kernel_rfl
theorem pl208 : V.plB Go.Proofs.Try.prog 208 = some [(0, 0)] := by kernel_rfl
theorem ag209 : agB Go.Proofs.Try.prog 209 = some false := by kernel_rfl
theorem sz209 : szB Go.Proofs.Try.prog 209 = some 1 := by kernel_rfl
theorem by209 : byB Go.Proofs.Try.prog 209 = some 1 := by kernel_rfl
theorem zr209 : zrB Go.Proofs.Try.prog 209 = some (.int .u8 0) := by kernel_rfl
theorem in209 : inB Go.Proofs.Try.prog 209 = some .u8 := by kernel_rfl
theorem ag210 : agB Go.Proofs.Try.prog 210 = some false := by kernel_rfl
theorem sz210 : szB Go.Proofs.Try.prog 210 = some 1 := by kernel_rfl
theorem by210 : byB Go.Proofs.Try.prog 210 = some 1 := by kernel_rfl
theorem zr210 : zrB Go.Proofs.Try.prog 210 = some (.int .u8 0) := by kernel_rfl
theorem in210 : inB Go.Proofs.Try.prog 210 = some .u8 := by kernel_rfl
theorem ag212 : agB Go.Proofs.Try.prog 212 = some false := by kernel_rfl
theorem sz212 : szB Go.Proofs.Try.prog 212 = some 1 := by kernel_rfl
theorem by212 : byB Go.Proofs.Try.prog 212 = some 8 := by kernel_rfl
theorem zr212 : zrB Go.Proofs.Try.prog 212 = some (.pointer none) := by kernel_rfl
theorem pt212 : ptB Go.Proofs.Try.prog 212 = some 5 := by kernel_rfl
theorem ag213 : agB Go.Proofs.Try.prog 213 = some false := by kernel_rfl
theorem sz213 : szB Go.Proofs.Try.prog 213 = some 1 := by kernel_rfl
theorem by213 : byB Go.Proofs.Try.prog 213 = some 4 := by kernel_rfl
theorem zr213 : zrB Go.Proofs.Try.prog 213 = some (.int .i32 0) := by kernel_rfl
theorem in213 : inB Go.Proofs.Try.prog 213 = some .i32 := by kernel_rfl
theorem ag214 : agB Go.Proofs.Try.prog 214 = some false := by kernel_rfl
theorem sz214 : szB Go.Proofs.Try.prog 214 = some 1 := by kernel_rfl
theorem by214 : byB Go.Proofs.Try.prog 214 = some 4 := by kernel_rfl
theorem zr214 : zrB Go.Proofs.Try.prog 214 = some (.int .i32 0) := by kernel_rfl
theorem in214 : inB Go.Proofs.Try.prog 214 = some .i32 := by kernel_rfl
theorem ag215 : agB Go.Proofs.Try.prog 215 = some true := by kernel_rfl
theorem sz215 : szB Go.Proofs.Try.prog 215 = some 11 := by kernel_rfl
theorem by215 : byB Go.Proofs.Try.prog 215 = some 48 := by kernel_rfl
theorem zr215 : zrB Go.Proofs.Try.prog 215 = some (.agg #[(.int .u64 0), (.int .u64 0), (.int .u32 0), (.int .u8 0), (.int .u8 0), (.int .u8 0), (.int .u8 0), .nilFunc, (.pointer none), (.int .i32 0), (.int .i32 0)]) := by kernel_rfl
theorem fd215_0 : fdB Go.Proofs.Try.prog 215 0 = some (0, 12, 0 + 1) := by kernel_rfl
theorem fd215_1 : fdB Go.Proofs.Try.prog 215 1 = some (1, 12, 0 + 1) := by kernel_rfl
theorem fd215_2 : fdB Go.Proofs.Try.prog 215 2 = some (2, 145, 0 + 1) := by kernel_rfl
theorem fd215_3 : fdB Go.Proofs.Try.prog 215 3 = some (3, 209, 0 + 1) := by kernel_rfl
theorem fd215_4 : fdB Go.Proofs.Try.prog 215 4 = some (4, 5, 0 + 1) := by kernel_rfl
theorem fd215_5 : fdB Go.Proofs.Try.prog 215 5 = some (5, 5, 0 + 1) := by kernel_rfl
theorem fd215_6 : fdB Go.Proofs.Try.prog 215 6 = some (6, 210, 0 + 1) := by kernel_rfl
theorem fd215_8 : fdB Go.Proofs.Try.prog 215 8 = some (8, 212, 0 + 1) := by kernel_rfl
theorem fd215_9 : fdB Go.Proofs.Try.prog 215 9 = some (9, 213, 0 + 1) := by kernel_rfl
theorem fd215_10 : fdB Go.Proofs.Try.prog 215 10 = some (10, 214, 0 + 1) := by kernel_rfl
theorem ag216 : agB Go.Proofs.Try.prog 216 = some true := by kernel_rfl
theorem sz216 : szB Go.Proofs.Try.prog 216 = some 11 := by kernel_rfl
theorem by216 : byB Go.Proofs.Try.prog 216 = some 48 := by kernel_rfl
theorem zr216 : zrB Go.Proofs.Try.prog 216 = some (.agg #[(.int .u64 0), (.int .u64 0), (.int .u32 0), (.int .u8 0), (.int .u8 0), (.int .u8 0), (.int .u8 0), .nilFunc, (.pointer none), (.int .i32 0), (.int .i32 0)]) := by kernel_rfl
theorem fd216_0 : fdB Go.Proofs.Try.prog 216 0 = some (0, 12, 0 + 1) := by kernel_rfl
theorem fd216_1 : fdB Go.Proofs.Try.prog 216 1 = some (1, 12, 0 + 1) := by kernel_rfl
theorem fd216_2 : fdB Go.Proofs.Try.prog 216 2 = some (2, 145, 0 + 1) := by kernel_rfl
theorem fd216_3 : fdB Go.Proofs.Try.prog 216 3 = some (3, 209, 0 + 1) := by kernel_rfl
theorem fd216_4 : fdB Go.Proofs.Try.prog 216 4 = some (4, 5, 0 + 1) := by kernel_rfl
theorem fd216_5 : fdB Go.Proofs.Try.prog 216 5 = some (5, 5, 0 + 1) := by kernel_rfl
theorem fd216_6 : fdB Go.Proofs.Try.prog 216 6 = some (6, 210, 0 + 1) := by kernel_rfl
theorem fd216_8 : fdB Go.Proofs.Try.prog 216 8 = some (8, 212, 0 + 1) := by kernel_rfl
theorem fd216_9 : fdB Go.Proofs.Try.prog 216 9 = some (9, 213, 0 + 1) := by kernel_rfl
theorem fd216_10 : fdB Go.Proofs.Try.prog 216 10 = some (10, 214, 0 + 1) := by kernel_rfl
end T
end Go.Proofs.Ytpebbkhainpfaaa

namespace Go.Proofs.Ytpebbkhainpfaaa
open Go Go.HL

/-- The lowest bytes of a number, the highest one first; and back. -/
def fixedN (n size : Nat) : List UInt8 := (List.range size).map fun j => UInt8.ofNat (n / 256 ^ (size - 1 - j))
theorem fixedN_len (n size : Nat) : (fixedN n size).length = size := by simp [fixedN]
def beN (l : List UInt8) : Nat := l.foldl (fun n x => n * 256 + x.toNat) 0
def rdN (b : List UInt8) (p k : Nat) : Nat := beN ((b.drop p).take k)
theorem beN_snoc (l : List UInt8) (x : UInt8) : beN (l ++ [x]) = beN l * 256 + x.toNat := by simp [beN]
theorem beN_lt (l : List UInt8) : beN l < 256 ^ l.length := by
  suffices h : ∀ n, beN (l.take n) < 256 ^ (l.take n).length by have := h l.length; simpa using this
  intro n
  induction n with
  | zero => simp [beN]
  | succ n ih =>
    by_cases hn : n < l.length
    · rw [take_next hn, beN_snoc, List.length_append, List.length_singleton, Nat.pow_succ]
      have := l[n].toNat_lt
      have h2 : beN (l.take n) * 256 + 256 ≤ 256 ^ (l.take n).length * 256 := by rw [← Nat.succ_mul]; exact Nat.mul_le_mul_right _ ih
      omega
    · rw [List.take_of_length_le (by omega)] at ih ⊢; exact ih
theorem bv_ofNat (m : Nat) : bv (UInt8.ofNat m) = .int .u8 ((m % 256 : Nat) : Int) := by simp [bv]
theorem set_bv {zs : List UInt8} {q m : Nat} : (zs.map bv).set q (.int .u8 ((m % 256 : Nat) : Int)) = (zs.set q (UInt8.ofNat m)).map bv := by rw [List.map_set, bv_ofNat]
theorem shl8_or {m x : Nat} (hm : m < 72057594037927936) (hx : x < 256) : m * 2 ^ 8 % 18446744073709551616 ||| x = m * 256 + x := by
  have h1 : m * 2 ^ 8 % 18446744073709551616 = m <<< 8 := by rw [Nat.shiftLeft_eq]; exact Nat.mod_eq_of_lt (by omega)
  rw [h1, ← Nat.shiftLeft_add_eq_or_of_lt (by simpa using hx), Nat.shiftLeft_eq]
theorem pow256 {j k : Nat} (h : j ≤ k) : 256 ^ j ≤ 256 ^ k := Nat.pow_le_pow_right (by omega) h

set_option maxRecDepth 100000 in
set_option maxHeartbeats 2000000 in
theorem fixed_any {h : Heap} {n size : Nat} (hn : n < 18446744073709551616) (h1 : 1 ≤ size) (h8 : size ≤ 8) :
    HC Try.prog 59 #[.int .u64 (n : Int), .int .i64 (size : Int)] h (fun v h' => Own h h' 1 5 v ((fixedN n size).map bv)) := by
  have ok := Hp.nil h none_
  refine HC.go Try.func59 32 ?_
  refine .seq <| .r <| .w 4 .asS <| .nil ?_
  refine .seq <| .seq <| .r <| .w 7 .mvI <| .w 8 .lss <| .w 9 .mvB <| .sd (fun G9 => ?_) (fun G9 => ?_)
  ·
    omega
  refine .w 10 .mvI <| .w 11 .gtr <| .w 12 .pkf <| .nil ?_
  refine .cd (fun C0 => ?_) (fun C0 => ?_)
  · --
    omega
  refine .skip <| .seq <| .r <| .w 13 .mvI <| .a' 14 (.mks size size T.el22 T.sz5 T.by5 T.zr5 ok) ?_
  rintro _ η1 ⟨pb1, rfl, ok, xe⟩
  have ok := ok.cx (ys := (List.replicate size (0 : UInt8)).map bv) (zeros8 _)
  refine .w 5 .asS <| .nil ?_
  refine .seq <| .seq <| .r <| .w 15 .mvI <| .w 16 .mvI <| .nil ?_
  refine .block fun K0 hK0 => .loop (fun m s hh => ∃ (i : Nat) (zs : List UInt8), Has s [(0, .int .u64 (n : Int)), (1, .int .i64 (size : Int)), (5, .slice (some ⟨pb1, 0, none⟩) size size), (15, .int .i64 (size : Int)), (16, .int .i64 (i : Int))] ∧ Hp h none_ [capI 1 5 (some ⟨pb1, 0, none⟩, size, size) (zs.map bv)] [] hh ∧ i ≤ size ∧ zs.length = size ∧ (∀ j, j < i → zs[size - 1 - j]? = some (UInt8.ofNat (n / 256 ^ j))) ∧ m = size - i) ?_ ?_
  · exact ⟨_, 0, List.replicate size 0, ⟨rfl, rfl, rfl, rfl, rfl, trivial⟩, ok.cx (by simp), by omega, by simp, fun j h => by omega, rfl⟩
  rintro _ _ η2 ⟨i, zs, hs, ok, hi, hzl, hz, rfl⟩ J0 hJ0
  refine .frame hs fun τ => ?_
  refine .seq <| .r <| .w 17 .lss <| .nil ?_
  refine .seq <| .cdr (fun C1 => ?_) (fun C1 => ?_)
  · --
    have hil : i = size := by omega
    have hfin : zs = fixedN n size := List.ext_getElem? fun q => by
      unfold fixedN
      by_cases hq : q < size
      · have := hz (size - 1 - q) (by omega)
        rw [show size - 1 - (size - 1 - q) = q by omega] at this
        rw [this]; simp [hq]
      · rw [List.getElem?_eq_none (by omega), List.getElem?_eq_none (by simp; omega)]
    refine .exit <| hK0 _ _ <| .seq <| .r <| .w 31 .mvS <| .w 4 .asS <| .nil ?_
    refine .ret ⟨.slice (some ⟨pb1, 0, none⟩) size size, Res.one rfl rfl, by have h2 := ok.toOwn; rwa [hfin] at h2⟩
  have hil : i < size := by omega
  have hz2 : ∀ j, j < i + 1 → (zs.set (size - 1 - i) (UInt8.ofNat (n / 256 ^ i)))[size - 1 - j]? = some (UInt8.ofNat (n / 256 ^ j)) := fun j hj => by
    rw [List.getElem?_set]
    by_cases e : j = i
    · subst e; rw [if_pos rfl, if_pos (by omega)]
    · rw [if_neg (by omega)]; exact hz j (by omega)
  refine .skip <| .seq <| .block fun K1 hK1 => .seq <| .r <| .w 18 .mvI <| .w 6 .asI <| .nil ?_
  refine .r <| .w 19 .mvS <| .w 20 .mvI <| .w 21 .sub <| .w 22 .mvI <| .w 23 .sub <| .w 24 .mvI <| .w 25 .mvI <| .w 26 (.mulI (a := 8)) <| .w 27 (.shrn (M := 18446744073709551616) rfl (ha := by omega)) <| .w 28 (.cvm T.in5 T.in25 (M := 256) rfl rfl) <| .w 29 (.ix1 (size - 1 - i) T.el22 T.sz5) <| .ur' (.sxI (q := (size - 1 - i)) T.sz5 ok) ?_
  rintro η3 ⟨ok, cg⟩
  refine .nil ?_
  refine .end <| hK1 _ _ <| .r <| .w 30 (.addI (b := 1)) <| .w 16 .mvI <| .nil ?_
  refine .end <| hJ0 _ _ _ ⟨i + 1, zs.set (size - 1 - i) (UInt8.ofNat (n / 256 ^ i)), ⟨rfl, rfl, rfl, rfl, rfl, trivial⟩, ok.cx (by first | rfl | (have e : 2 ^ (8 * i) = 256 ^ i := by rw [Nat.pow_mul]); rw [e]; exact set_bv), by omega, by simp [hzl], hz2, rfl⟩ (by omega)

set_option maxRecDepth 100000 in
set_option maxHeartbeats 2000000 in
theorem rfixed_any {h : Heap} {n size : Nat} (hn : n < 18446744073709551616) (h1 : 1 ≤ size) (h8 : size ≤ 8) :
    HC Try.prog 61 #[.int .u64 (n : Int), .int .i64 (size : Int)] h (fun v h' => Own h h' 1 5 v ((fixedN n size).map bv)) := by
  have ok := Hp.nil h none_
  refine HC.go Try.func61 30 ?_
  refine .seq <| .r <| .w 4 .asS <| .nil ?_
  refine .seq <| .seq <| .r <| .w 7 .mvI <| .w 8 .lss <| .w 9 .mvB <| .sd (fun G9 => ?_) (fun G9 => ?_)
  ·
    omega
  refine .w 10 .mvI <| .w 11 .gtr <| .w 12 .pkf <| .nil ?_
  refine .cd (fun C0 => ?_) (fun C0 => ?_)
  · --
    omega
  refine .skip <| .seq <| .r <| .w 13 .mvI <| .a' 14 (.mks size size T.el22 T.sz5 T.by5 T.zr5 ok) ?_
  rintro _ η1 ⟨pb1, rfl, ok, xe⟩
  have ok := ok.cx (ys := (List.replicate size (0 : UInt8)).map bv) (zeros8 _)
  refine .w 5 .asS <| .nil ?_
  refine .seq <| .seq <| .r <| .w 15 .mvI <| .w 16 .sub <| .w 6 .asI <| .nil ?_
  refine .block fun K0 hK0 => .loop (fun m s hh => ∃ (i mm : Nat) (z : Int) (zs : List UInt8), Has s [(0, .int .u64 (mm : Int)), (5, .slice (some ⟨pb1, 0, none⟩) size size), (6, .int .i64 z)] ∧ Hp h none_ [capI 1 5 (some ⟨pb1, 0, none⟩, size, size) (zs.map bv)] [] hh ∧ i ≤ size ∧ z = (i : Int) - 1 ∧ mm = n / 256 ^ (size - i) ∧ zs.length = size ∧ (∀ j, i ≤ j → j < size → zs[j]? = some (UInt8.ofNat (n / 256 ^ (size - 1 - j)))) ∧ m = 0 + i) ?_ ?_
  · exact ⟨_, size, _, _, List.replicate size 0, ⟨rfl, rfl, rfl, trivial⟩, ok.cx (by simp), by omega, by omega, by simp, by simp, fun j h => by omega, rfl⟩
  rintro _ _ η2 ⟨i, mm, z, zs, hs, ok, hi, hz0, hm, hzl, hz, rfl⟩ J0 hJ0
  refine .frame hs fun τ => ?_
  refine .seq <| .seq <| .r <| .w 17 .mvI <| .w 18 .geq <| .nil ?_
  refine .cdr (fun C1 => ?_) (fun C1 => ?_)
  · --
    have hil : i = 0 := by omega
    have hfin : zs = fixedN n size := List.ext_getElem? fun q => by
      unfold fixedN
      by_cases hq : q < size
      · rw [hz q (by omega) hq]; simp [hq]
      · rw [List.getElem?_eq_none (by omega), List.getElem?_eq_none (by simp; omega)]
    refine .exit <| hK0 _ _ <| .seq <| .r <| .w 29 .mvS <| .w 4 .asS <| .nil ?_
    refine .ret ⟨.slice (some ⟨pb1, 0, none⟩) size size, Res.one rfl rfl, by have h2 := ok.toOwn; rwa [hfin] at h2⟩
  have hil : 1 ≤ i := by omega
  have hz2 : ∀ j, i - 1 ≤ j → j < size → (zs.set (i - 1) (UInt8.ofNat mm))[j]? = some (UInt8.ofNat (n / 256 ^ (size - 1 - j))) := fun j hj1 hj2 => by
    rw [List.getElem?_set]
    by_cases e : i - 1 = j
    · subst e; rw [if_pos rfl, if_pos (by omega), hm, show size - 1 - (i - 1) = size - i by omega]
    · rw [if_neg e]; exact hz j (by omega) hj2
  have hnl : mm < 18446744073709551616 := by rw [hm]; exact Nat.lt_of_le_of_lt (Nat.div_le_self _ _) hn
  refine .skip <| .seq <| .block fun K1 hK1 => .seq <| .r <| .w 21 .mvS <| .w 22 .mvI <| .w 23 .mvI <| .w 24 (.remn (b := 256)) <| .w 25 (.cvm T.in5 T.in25 (M := 256) rfl rfl) <| .w 26 (.ix1 (i - 1) T.el22 T.sz5) <| .ur' (.sxI (q := (i - 1)) T.sz5 ok) ?_
  rintro η3 ⟨ok, cg⟩
  refine .nil ?_
  refine .r <| .w 27 .mvI <| .w 28 (.quon (M := 18446744073709551616) rfl rfl (b := 256)) <| .w 0 .asI <| .nil ?_
  refine .end <| hK1 _ _ <| .r <| .w 19 .mvI <| .w 20 .sub <| .w 6 .asI <| .nil ?_
  refine .end <| hJ0 _ _ _ ⟨i - 1, _, _, zs.set (i - 1) (UInt8.ofNat mm), ⟨rfl, rfl, rfl, trivial⟩, ok.cx (by first | (simp; done) | (rw [Nat.mod_mod]; exact set_bv)), by omega, by omega, by rw [hm, Nat.div_div_eq_div_mul, ← Nat.pow_succ]; congr 2; omega, by simp [hzl], hz2, rfl⟩ (by omega)

set_option maxRecDepth 100000 in
set_option maxHeartbeats 2000000 in
theorem read_any {h : Heap} {F E : Nat → Prop} {a : Option Addr} {c : Nat} {l : List UInt8} (hl : RdL h F E (a, l.length, c) l) {p size : Nat} (h1 : 1 ≤ size) (h8 : size ≤ 8) (hp : p + size ≤ l.length) :
    HC Try.prog 111 #[.slice a l.length c, .int .i64 (p : Int), .int .i64 (size : Int)] h (fun v h' => v = .tuple #[.int .u64 ((rdN l p size : Nat) : Int), .int .i64 0] ∧ h' = h) := by
  have hc2 := hl.m
  have hc1 : l.length ≤ c := hl.c
  simp only at hc2
  obtain ⟨l2, hl2⟩ : ∃ l2, l2 = (l.drop p).take size := ⟨_, rfl⟩
  have hl2n : l2.length = size := by rw [hl2]; simp; omega
  unfold rdN
  rw [← hl2]
  refine HC.go Try.func111 53 ?_
  refine .seq <| .r <| .w 6 .asI <| .w 7 .asI <| .nil ?_
  refine .seq <| .block fun K0 hK0 => .seq <| .r <| .w 12 .mvI <| .w 13 .lss <| .w 14 .mvB <| .sd (fun G14 => ?_) (fun G14 => ?_)
  ·
    omega
  refine .w 15 .mvI <| .w 16 .gtr <| .w 17 .pkf <| .w 18 .mvB <| .sd (fun G18 => ?_) (fun G18 => ?_)
  ·
    omega
  refine .w 19 .mvI <| .w 20 .lss <| .w 21 .pkf <| .w 11 .asB <| .nil ?_
  refine .cd (fun C0 => ?_) (fun C0 => ?_)
  · --
    omega
  refine .seq <| .r <| .w 23 .mvI <| .w 24 .mvS <| .w 25 (.len T.el22) <| .w 26 .gtr <| .w 27 .mvB <| .sd (fun G27 => ?_) (fun G27 => ?_)
  ·
    omega
  refine .w 28 .mvS <| .w 29 (.len T.el22) <| .w 30 .mvI <| .w 31 .sub <| .w 32 .mvI <| .w 33 .lss <| .w 34 .pkf <| .w 22 .asB <| .nil ?_
  refine .cd (fun C1 => ?_) (fun C1 => ?_)
  · --
    omega
  refine .skip <| .end <| hK0 _ _ <| .seq <| .r <| .w 8 .asI <| .nil ?_
  refine .seq <| .seq <| .r <| .w 35 .mvS <| .w 36 .mvI <| .w 37 .mvI <| .w 38 .mvI <| .w 39 .addI <| .w 40 (.slh p (p + size) T.el22 T.sz5) <| ?_
  generalize hc1 : cutA a p c 1 = ca1
  have hk1 : RdL h F E (ca1, (p + size) - p, c - p) l2 := (by have h1 := hl.cut (i := p) (j := (p + size)) (by omega) (by omega); rw [show ((l).drop p).take ((p + size) - p) = l2 from by rw [hl2]; congr 1; omega] at h1; subst hc1; exact h1)
  refine .w 41 (.len T.el22) <| .w 42 .mvI <| .nil ?_
  refine .block fun K1 hK1 => .loop (fun m s hh => ∃ (j mm : Nat), Has s [(8, .int .u64 (mm : Int)), (40, .slice ca1 ((p + size) - p) (c - p)), (41, .int .i64 (((p + size) - p : Nat) : Int)), (42, .int .i64 (j : Int))] ∧ h = hh ∧ j ≤ l2.length ∧ mm = beN (l2.take j) ∧ m = l2.length - j) ?_ ?_
  · exact ⟨_, 0, 0, ⟨rfl, rfl, rfl, rfl, trivial⟩, rfl, Nat.zero_le _, rfl, rfl⟩
  rintro _ _ _ ⟨j, mm, hs, rfl, hj, hm, rfl⟩ J0 hJ0
  refine .frame hs fun τ => ?_
  refine .seq <| .r <| .w 43 .lss <| .nil ?_
  refine .seq <| .cdr (fun C2 => ?_) (fun C2 => ?_)
  · --
    have hjn : j = l2.length := by omega
    have htk : l2.take j = l2 := List.take_of_length_le (by omega)
    rw [htk] at hm
    refine .exit <| hK1 _ _ <| .seq <| .r <| .w 52 .mvI <| .w 6 .asI <| .w 7 .asI <| .nil ?_
    refine .ret ⟨.tuple #[.int .u64 (mm : Int), .int .i64 0], Res.two rfl rfl rfl, ⟨by rw [hm], rfl⟩⟩
  have hjl : j < l2.length := by omega
  have hlt : beN (l2.take j) < 72057594037927936 := Nat.lt_of_lt_of_le (beN_lt _) (Nat.le_trans (pow256 (k := 7) (by simp; omega)) (by decide))
  have hsn : beN (l2.take (j + 1)) = beN (l2.take j) * 256 + l2[j].toNat := by rw [take_next hjl, beN_snoc]
  refine .skip <| .seq <| .block fun K2 hK2 => .seq <| .r <| ?_
  obtain ⟨bb1, oo1, rfl, fb1⟩ := hk1.pos (by omega)
  refine .w 44 (.ix1 j T.el22 T.sz5) <| .w 45 (.ld T.ag5 (hk1.u8 (i := j) (by omega))) <| .w 10 .asI <| .nil ?_
  refine .r <| .w 46 .mvI <| .w 47 (.shln (M := 18446744073709551616) rfl rfl (b := 8)) <| .w 48 .mvI <| .w 49 (.cvs T.in25 T.in5 (M := 18446744073709551616) rfl rfl) <| .w 50 (.bor (M := 18446744073709551616) rfl rfl) <| .w 8 .asI <| .nil ?_
  refine .end <| hK2 _ _ <| .r <| .w 51 (.addI (b := 1)) <| .w 42 .mvI <| .nil ?_
  refine .end <| hJ0 _ _ _ ⟨j + 1, _, ⟨rfl, rfl, rfl, rfl, trivial⟩, rfl, by omega, by rw [hm, hsn]; exact shl8_or hlt (byte_lt _), rfl⟩ (by omega)

set_option maxRecDepth 100000 in
set_option maxHeartbeats 2000000 in
theorem rread_any {h : Heap} {F E : Nat → Prop} {a : Option Addr} {c : Nat} {l : List UInt8} (hl : RdL h F E (a, l.length, c) l) {p size : Nat} (h1 : 1 ≤ size) (h8 : size ≤ 8) (hp : p + size ≤ l.length) :
    HC Try.prog 50 #[.slice a l.length c, .int .i64 (p : Int), .int .i64 (size : Int)] h (fun v h' => v = .tuple #[.int .u64 ((rdN l p size : Nat) : Int), .int .i64 0] ∧ h' = h) := by
  have hc2 := hl.m
  have hc1 : l.length ≤ c := hl.c
  simp only at hc2
  obtain ⟨l2, hl2⟩ : ∃ l2, l2 = (l.drop p).take size := ⟨_, rfl⟩
  have hl2n : l2.length = size := by rw [hl2]; simp; omega
  unfold rdN
  rw [← hl2]
  refine HC.go Try.func50 48 ?_
  refine .seq <| .r <| .w 6 .asI <| .w 7 .asI <| .nil ?_
  refine .seq <| .seq <| .r <| .w 10 .mvI <| .w 11 .lss <| .w 12 .mvB <| .sd (fun G12 => ?_) (fun G12 => ?_)
  ·
    omega
  refine .w 13 .mvI <| .w 14 .gtr <| .w 15 .pkf <| .w 16 .mvB <| .sd (fun G16 => ?_) (fun G16 => ?_)
  ·
    omega
  refine .w 17 .mvI <| .w 18 .lss <| .w 19 .pkf <| .nil ?_
  refine .cd (fun C0 => ?_) (fun C0 => ?_)
  · --
    omega
  refine .skip <| .seq <| .seq <| .r <| .w 20 .mvI <| .w 21 .mvS <| .w 22 (.len T.el22) <| .w 23 .gtr <| .w 24 .mvB <| .sd (fun G24 => ?_) (fun G24 => ?_)
  ·
    omega
  refine .w 25 .mvS <| .w 26 (.len T.el22) <| .w 27 .mvI <| .w 28 .sub <| .w 29 .mvI <| .w 30 .lss <| .w 31 .pkf <| .nil ?_
  refine .cd (fun C1 => ?_) (fun C1 => ?_)
  · --
    omega
  refine .skip <| .seq <| .r <| .w 8 .asI <| .nil ?_
  refine .seq <| .seq <| .r <| .w 9 .asI <| .nil ?_
  refine .block fun K0 hK0 => .loop (fun m s hh => ∃ (j mm : Nat), Has s [(0, .slice a l.length c), (1, .int .i64 (p : Int)), (2, .int .i64 (size : Int)), (8, .int .u64 (mm : Int)), (9, .int .i64 (j : Int))] ∧ h = hh ∧ j ≤ l2.length ∧ mm = beN (l2.take j) ∧ m = l2.length - j) ?_ ?_
  · exact ⟨_, 0, 0, ⟨rfl, rfl, rfl, rfl, rfl, trivial⟩, rfl, Nat.zero_le _, rfl, rfl⟩
  rintro _ _ _ ⟨j, mm, hs, rfl, hj, hm, rfl⟩ J0 hJ0
  refine .frame hs fun τ => ?_
  refine .seq <| .seq <| .r <| .w 32 .mvI <| .w 33 .mvI <| .w 34 .lss <| .nil ?_
  refine .cdr (fun C2 => ?_) (fun C2 => ?_)
  · --
    have hjn : j = l2.length := by omega
    have htk : l2.take j = l2 := List.take_of_length_le (by omega)
    rw [htk] at hm
    refine .exit <| hK0 _ _ <| .seq <| .r <| .w 47 .mvI <| .w 6 .asI <| .w 7 .asI <| .nil ?_
    refine .ret ⟨.tuple #[.int .u64 (mm : Int), .int .i64 0], Res.two rfl rfl rfl, ⟨by rw [hm], rfl⟩⟩
  have hjl : j < l2.length := by omega
  have hlt : beN (l2.take j) < 72057594037927936 := Nat.lt_of_lt_of_le (beN_lt _) (Nat.le_trans (pow256 (k := 7) (by simp; omega)) (by decide))
  have hsn : beN (l2.take (j + 1)) = beN (l2.take j) * 256 + l2[j].toNat := by rw [take_next hjl, beN_snoc]
  have hlj : l[p + j] = l2[j] := by subst hl2; simp
  refine .skip <| .seq <| .block fun K1 hK1 => .r <| .w 37 .mvI <| .w 38 (.muln (M := 18446744073709551616) rfl rfl (b := 256)) <| .w 39 .mvS <| .w 40 .mvI <| .w 41 .mvI <| .w 42 .addI <| ?_
  obtain ⟨bb1, oo1, rfl, fb1⟩ := hl.pos (by omega)
  refine .w 43 (.ix1 (p + j) T.el22 T.sz5) <| .w 44 (.ld T.ag5 (hl.u8 (i := (p + j)) (by omega))) <| .w 45 (.cvs T.in25 T.in5 (M := 18446744073709551616) rfl rfl) <| .w 46 (.addn (M := 18446744073709551616) rfl rfl) <| .w 8 .asI <| .nil ?_
  refine .end <| hK1 _ _ <| .r <| .w 35 .mvI <| .w 36 (.addI (b := 1)) <| .w 9 .asI <| .nil ?_
  refine .end <| hJ0 _ _ _ ⟨j + 1, _, ⟨rfl, rfl, rfl, rfl, rfl, trivial⟩, rfl, by omega, by rw [hm, hsn, hlj]; have := byte_lt l2[j]; omega, rfl⟩ (by omega)

theorem _root_.Go.HL.Cap.clip {h : Heap} {k : Nat} {e : TypeId} {a : Option Addr} {n c : Nat} {xs : List Value} (r : Cap h k e (.slice a n c) xs) : Cap h k e (.slice a n n) xs := by
  obtain ⟨a', n', c', e1, h1, h2, h3, h4⟩ := r
  injection e1 with e1 e2 e3
  subst e1 e2 e3
  refine ⟨_, _, _, rfl, Nat.le_refl _, by omega, h3, ?_⟩
  rcases h4 with ⟨q1, q2⟩ | ⟨b, o, cs, fz, q1, q2, q3, q4⟩
  · exact .inl ⟨q1, by omega⟩
  · exact .inr ⟨b, o, cs, fz, q1, q2, by have := Nat.mul_le_mul_right k h1; omega, q4⟩
theorem _root_.Go.HL.Hp.clip {h0 h : Heap} {D : Nat → Prop} {M R : List Itm} {k : Nat} {e : TypeId} {a : Option Addr} {n c : Nat} {xs : List Value} (ok : Hp h0 D (capI k e (a, n, c) xs :: M) R h) : Hp h0 D (capI k e (a, n, n) xs :: M) R h :=
  ok.re _ (Cap.clip ok.m0) (fun j hj => by obtain ⟨o, n', c', hv⟩ := hj; injection hv with h1 h2 h3; have h4 : a = some ⟨j, o, none⟩ := h1; exact ⟨o, n, c, by rw [h4]⟩)
theorem spl_nil (cs : List Value) (o : Nat) : spl cs o [] = cs := by simp [spl]
theorem spl_end {xs zs ys : List Value} {p : Nat} (hp : p = xs.length) : spl (xs ++ zs) p ys = (xs ++ ys) ++ zs.drop ys.length := by
  subst hp
  simp [spl, List.drop_append]
theorem flat_snoc {α : Type} {L : List (List α)} {j : Nat} (hj : j < L.length) : (L.take (j + 1)).flatten = (L.take j).flatten ++ L[j] := by rw [take_next hj, List.flatten_append]; simp
theorem flat_le {α : Type} (L : List (List α)) (j : Nat) : (L.take j).flatten.length ≤ L.flatten.length := by
  have : L.flatten = (L.take j).flatten ++ (L.drop j).flatten := by rw [← List.flatten_append, List.take_append_drop]
  rw [this]; simp

set_option maxRecDepth 100000 in
set_option maxHeartbeats 2000000 in
theorem bjoin_any {h : Heap} {F E : Nat → Prop} {a : Option Addr} {c : Nat} {L : List (List UInt8)} (hl : RdL h F E (a, L.length, c) L) (hN : L.flatten.length ≤ 1000000000) :
    HC Try.prog 95 #[.slice a L.length c, .slice none 0 0] h (fun v h' => Own h h' 1 5 v (L.flatten.map bv)) := by
  have hc2 := hl.m
  have hc1 : L.length ≤ c := hl.c
  simp only at hc2
  have ok := (Hp.nil h none_).arg hl
  refine HC.go Try.func95 92 ?_
  refine .seq <| .r <| .w 4 .asS <| .nil ?_
  refine .seq <| .seq <| .r <| .w 12 .mvS <| .w 13 (.len T.el143) <| .w 14 .eql <| .nil ?_
  refine .cd (fun C0 => ?_) (fun C0 => ?_)
  · --
    have hL0 := List.eq_nil_of_length_eq_zero (show L.length = 0 by omega)
    refine .seq <| .r <| .a' 15 (.lit [] (cs := []) T.el22 T.sz5 T.zr5 ok trivial) ?_
    rintro _ η1 ⟨pb1, rfl, ok, xe⟩
    have ok := ok.cx (ys := ([] : List UInt8).map bv) rfl
    refine .w 4 .asS <| .nil ?_
    refine .ret ⟨.slice (some ⟨pb1, 0, none⟩) 0 0, Res.one rfl rfl, by have := ok.toOwn; rw [hL0]; exact this⟩
  refine .skip <| .seq <| .seq <| .r <| .w 16 .mvS <| .w 17 (.len T.el143) <| .w 18 .eql <| .nil ?_
  refine .cd (fun C1 => ?_) (fun C1 => ?_)
  · --
    have hlen : L.length = 1 := by omega
    have hfl : L.flatten = L[0] := by obtain ⟨x, hx⟩ := List.length_eq_one_iff.1 hlen; subst hx; simp
    have hll := congrArg List.length hfl
    refine .seq <| .r <| .w 19 .mvS <| ?_
    obtain ⟨bb1, oo1, rfl, fb1⟩ := ok.r0.pos (by omega)
    refine .w 20 (.ix1 0 T.el143 T.sz22) <| ?_
    obtain ⟨ya1, yc1, he1, hr1⟩ := ok.r0.row (i := 0) (by omega)
    have ok := ok.d0 (rdI (fun j => E j ∧ j < h.size) (fun j => E j ∧ j < h.size) (ya1, L[0].length, yc1) (L[0])) hr1 (fun _ h => .inr (h.elim id id))
    refine .w 21 (.ld T.ag22 he1) <| ?_
    have ok := ok.nilC (k := 1) (e := 5)
    refine .a' 22 (.app (news := (L[0]).map bv) T.el22 T.sz5 T.by5 T.zr5 ok (ok.r0).by bv_all (by simp only [List.length_map, List.length_append, List.length_take, List.length_cons, List.length_nil, List.length_replicate, List.length_range]; omega)) ?_
    rintro _ η2 ⟨ya2, yn1, yc2, rfl, ok, ap⟩
    have ok := ok.cx (ys := ((L[0])).map bv) (by simp [bv])
    obtain rfl : yn1 = ((L[0])).length := ok.lenB
    refine .w 4 .asS <| .nil ?_
    refine .ret ⟨.slice ya2 (((L[0])).length) yc2, Res.one rfl rfl, by have := ok.toOwn; rw [hfl]; simpa using this⟩
  refine .skip <| .seq <| .r <| .w 5 .asI <| .nil ?_
  refine .seq <| .seq <| .r <| .w 23 .mvS <| .w 24 (.len T.el22) <| .w 25 .gtr <| .nil ?_
  refine .cf <| .skip <| .seq <| .seq <| .r <| .w 42 .mvS <| .w 43 (.len T.el143) <| .w 44 .mvI <| .nil ?_
  refine .block fun K0 hK0 => .loop (fun m s hh => ∃ (j nn : Nat), Has s [(0, .slice a L.length c), (1, .slice none 0 0), (5, .int .i64 (nn : Int)), (42, .slice a L.length c), (43, .int .i64 (L.length : Int)), (44, .int .i64 (j : Int))] ∧ Hp h none_ [] [rdI (fun j => F j ∧ j < h.size) (fun j => E j ∧ j < h.size) (a, L.length, c) L] hh ∧ j ≤ L.length ∧ nn = (L.take j).flatten.length ∧ m = L.length - j) ?_ ?_
  · exact ⟨_, 0, 0, ⟨rfl, rfl, rfl, rfl, rfl, rfl, trivial⟩, ok, Nat.zero_le _, rfl, rfl⟩
  rintro _ _ η3 ⟨j, nn, hs, ok, hj, hnn, rfl⟩ J0 hJ0
  refine .frame hs fun τ => ?_
  refine .seq <| .r <| .w 45 .lss <| .nil ?_
  refine .seq <| .cdr (fun C4 => ?_) (fun C4 => ?_)
  · --
    have hjl : j = L.length := by omega
    have htk : L.take j = L := List.take_of_length_le (by omega)
    rw [htk] at hnn
    refine .exit <| hK0 _ _ <| .seq <| ?_
    obtain ⟨x0, L1, hL⟩ : ∃ x0 L1, L = x0 :: L1 := by cases L with | nil => exact absurd rfl C0 | cons x l => exact ⟨x, l, rfl⟩
    have hx0 : L[0]'(by omega) = x0 := by subst hL; rfl
    have hx1 := congrArg List.length hx0
    have hL1 : L.length = L1.length + 1 := by subst hL; rfl
    have hLf : L.flatten.length = x0.length + L1.flatten.length := by subst hL; simp
    refine .r <| .w 59 .mvI <| .a' 60 (.mnz nn (e := 5) Try.func116 rfl (by decide) rfl rfl T.el22 ok) ?_
    rintro _ η4 ⟨pb2, pc1, ps1, rfl, hpc, ok, xe⟩
    have hzn : ps1.length = nn := by have := (Cap.sl ok.m0).cells.1; simp only at this; omega
    refine .w 61 .mvI <| .w 62 .mvI <| .w 63 (.slhm nn nn T.el22 T.sz5) <| ?_
    have ok := ok.clip
    refine .w 8 .asS <| .nil ?_
    refine .seq <| .r <| .w 64 .mvS <| .w 65 .mvS <| ?_
    obtain ⟨bb2, oo2, rfl, fb2⟩ := ok.r0.pos (by omega)
    refine .w 66 (.ix1 0 T.el143 T.sz22) <| ?_
    obtain ⟨ya3, yc3, he2, hr2⟩ := ok.r0.row (i := 0) (by omega)
    have ok := ok.d0 (rdI (fun j => E j ∧ j < h.size) (fun j => E j ∧ j < h.size) (ya3, L[0].length, yc3) (L[0])) hr2 (fun _ h => .inr (h.elim id id))
    refine .w 67 (.ld T.ag22 he2) <| .a' 68 (.cp0 (ys := (L[0]).map bv) (m := L[0].length) T.el22 T.sz5 ok ok.r0.by bv_all) ?_
    rintro _ η5 ⟨rfl, ok, cg⟩
    refine .w 9 .asI <| .nil ?_
    refine .seq <| .seq <| .r <| .w 69 .mvS <| .w 70 (.sll 1 T.el143 T.sz22) <| ?_
    generalize hc1 : cutA (some ⟨bb2, oo2, none⟩) 1 c 1 = ca1
    have ok := ok.d1 (rdI (fun j => F j ∧ j < h.size) (fun j => E j ∧ j < h.size) (ca1, L.length - 1, c - 1) L1) (by have h1 := ok.r1.cut (i := 1) (j := L.length) (by omega) (by omega); rw [show ((L).drop 1).take (L.length - 1) = L1 from by subst hL; simp] at h1; subst hc1; exact h1) (fun _ h => h)
    refine .w 71 (.len T.el143) <| .w 72 .mvI <| .nil ?_
    refine .block fun K2 hK2 => .loop (fun m s hh => ∃ (j n2 : Nat) (zs : List Value), Has s [(1, .slice none 0 0), (8, .slice (some ⟨pb2, 0, none⟩) nn nn), (9, .int .i64 (n2 : Int)), (70, .slice ca1 (L.length - 1) (c - 1)), (71, .int .i64 ((L.length - 1 : Nat) : Int)), (72, .int .i64 (j : Int))] ∧ Hp h none_ [capI 1 5 (some ⟨pb2, 0, none⟩, nn, nn) ((x0 ++ (L1.take j).flatten).map bv ++ zs)] [rdI (fun j => F j ∧ j < h.size) (fun j => E j ∧ j < h.size) (ca1, L.length - 1, c - 1) L1, rdI (fun j => E j ∧ j < h.size) (fun j => E j ∧ j < h.size) (ya3, L[0].length, yc3) (L[0]), rdI (fun j => F j ∧ j < h.size) (fun j => E j ∧ j < h.size) (some ⟨bb2, oo2, none⟩, L.length, c) L] hh ∧ j ≤ L1.length ∧ n2 = x0.length + (L1.take j).flatten.length ∧ zs.length + n2 = nn ∧ m = L1.length - j) ?_ ?_
    · exact ⟨_, 0, _, ps1.drop (L[0].map bv).length, ⟨rfl, rfl, rfl, rfl, rfl, rfl, trivial⟩, ok.cx (by simp [hx0]), Nat.zero_le _, by simp [hx0], by simp [hx0]; omega, rfl⟩
    rintro _ _ η6 ⟨j, n2, zs, hs, ok, hj, hn2, hz, rfl⟩ J1 hJ1
    refine .frame hs fun τ => ?_
    refine .seq <| .r <| .w 73 .lss <| .nil ?_
    refine .seq <| .cdr (fun C6 => ?_) (fun C6 => ?_)
    · --
      have hjl : j = L1.length := by omega
      have htk : L1.take j = L1 := List.take_of_length_le (by omega)
      have hz0 : zs = [] := List.eq_nil_of_length_eq_zero (by rw [htk] at hn2; omega)
      refine .exit <| hK2 _ _ <| .seq <| .r <| .w 91 .mvS <| .w 4 .asS <| .nil ?_
      refine .ret ⟨.slice (some ⟨pb2, 0, none⟩) nn nn, Res.one rfl rfl, by have := ok.toOwn; rw [hz0, htk] at this; rw [hL]; simpa using this⟩
    have hjl : j < L1.length := by omega
    have hsn := congrArg List.length (flat_snoc hjl)
    rw [List.length_append] at hsn
    have hle := flat_le L1 (j + 1)
    refine .skip <| .seq <| .block fun K3 hK3 => .seq <| .r <| ?_
    obtain ⟨bb3, oo3, rfl, fb3⟩ := ok.r0.pos (by omega)
    refine .w 74 (.ix1 j T.el143 T.sz22) <| ?_
    obtain ⟨ya4, yc4, he3, hr3⟩ := ok.r0.row (i := j) (by omega)
    have ok := ok.d0 (rdI (fun j => E j ∧ j < h.size) (fun j => E j ∧ j < h.size) (ya4, L1[j].length, yc4) (L1[j])) hr3 (fun _ h => .inr (h.elim id id))
    refine .w 75 (.ld T.ag22 he3) <| .w 11 .asS <| .nil ?_
    refine .seq <| .r <| .w 76 .mvI <| .w 77 .mvS <| .w 78 .mvI <| .w 79 (.sll n2 T.el22 T.sz5) <| .w 80 .mvS <| .a' 81 (.cpy (ys := []) (m := 0) n2 T.el22 T.sz5 ok (Sl.nil _ 1) (oneL rfl) rfl) ?_
    rintro _ η7 ⟨rfl, ok, cg⟩
    refine .w 82 (.addI (b := 0)) <| .w 9 .asI <| .nil ?_
    refine .r <| .w 83 .mvI <| .w 84 .mvS <| .w 85 .mvI <| .w 86 (.sll (n2 + 0) T.el22 T.sz5) <| .w 87 .mvS <| .a' 88 (.cpy (ys := (L1[j]).map bv) (m := L1[j].length) (n2 + 0) T.el22 T.sz5 ok ok.r0.by bv_all rfl) ?_
    rintro _ η8 ⟨rfl, ok, cg⟩
    refine .w 89 .addI <| .w 9 .asI <| .nil ?_
    refine .end <| hK3 _ _ <| .r <| .w 90 (.addI (b := 1)) <| .w 72 .mvI <| .nil ?_
    refine .end <| hJ1 _ _ _ ⟨j + 1, _, zs.drop (L1[j].map bv).length, ⟨rfl, rfl, rfl, rfl, rfl, rfl, trivial⟩, ok.tR.cx (by rw [spl_nil, spl_end (by rw [List.length_map, List.length_append]; omega), flat_snoc hjl]; simp), by omega, by omega, by simp; omega, rfl⟩ (by omega)
  have hjl : j < L.length := by omega
  have hsn := congrArg List.length (flat_snoc hjl)
  rw [List.length_append] at hsn
  have hle := flat_le L (j + 1)
  refine .skip <| .seq <| .block fun K1 hK1 => .seq <| .r <| ?_
  obtain ⟨bb4, oo4, rfl, fb4⟩ := ok.r0.pos (by omega)
  refine .w 46 (.ix1 j T.el143 T.sz22) <| ?_
  obtain ⟨ya5, yc5, he4, hr4⟩ := ok.r0.row (i := j) (by omega)
  have ok := ok.d0 (rdI (fun j => E j ∧ j < h.size) (fun j => E j ∧ j < h.size) (ya5, L[j].length, yc5) (L[j])) hr4 (fun _ h => .inr (h.elim id id))
  refine .w 47 (.ld T.ag22 he4) <| .w 7 .asS <| .nil ?_
  refine .seq <| .seq <| .r <| .w 48 .mvS <| .w 49 (.len T.el22) <| .w 50 .mvI <| .w 51 .sub <| .w 52 .gtr <| .nil ?_
  refine .cd (fun C5 => ?_) (fun C5 => ?_)
  · --
    omega
  refine .skip <| .r <| .w 54 .mvI <| .w 55 .mvS <| .w 56 (.len T.el22) <| .w 57 .addI <| .w 5 .asI <| .nil ?_
  refine .end <| hK1 _ _ <| .r <| .w 58 (.addI (b := 1)) <| .w 44 .mvI <| .nil ?_
  refine .end <| hJ0 _ _ _ ⟨j + 1, _, ⟨rfl, rfl, rfl, rfl, rfl, rfl, trivial⟩, ok.tR, by omega, by omega, rfl⟩ (by omega)

set_option maxRecDepth 100000 in
set_option maxHeartbeats 2000000 in
theorem njoin_any {h : Heap} {F E : Nat → Prop} {a : Option Addr} {c : Nat} {L : List (List UInt8)} (hl : RdL h F E (a, L.length, c) L) (hN : L.flatten.length ≤ 1000000000) :
    HC Try.prog 57 #[.slice a L.length c] h (fun v h' => Own h h' 1 5 v (L.flatten.map bv)) := by
  have ok := (Hp.nil h none_).arg hl
  refine HC.go Try.func57 5 ?_
  refine .seq <| .r <| .w 2 .asS <| .nil ?_
  refine .seq <| .r <| .w 3 .mvS <| .c' 4 .func (bjoin_any (a := a) (c := c) (L := L) ok.r0 hN) ?_
  rintro _ η1 own
  obtain ⟨ya1, yc1, rfl⟩ := own.formB
  have ok := ok.own own
  refine .w 2 .asS <| .nil ?_
  refine .ret ⟨.slice ya1 (((L).flatten).length) yc1, Res.one rfl rfl, ok.toOwn⟩

end Go.Proofs.Ytpebbkhainpfaaa

namespace Go.Proofs.Ytpebbkhainpfaaa
open Go Go.HL

/-- One bit falls out on the right; some. -/
def bitN (c : Nat) : Nat := if c % 2 = 1 then c / 2 ^^^ 2197175160 else c / 2
def stN : Nat → Nat → Nat
  | 0, c => c
  | k + 1, c => bitN (stN k c)
def crcN (c : Nat) (l : List UInt8) : Nat := l.foldl (fun c x => stN 8 (c ^^^ x.toNat)) c
@[irreducible] def sumN (l : List UInt8) : Nat := 4294967295 - crcN 4294967295 l
theorem sumN_def (l : List UInt8) : sumN l = 4294967295 - crcN 4294967295 l := by unfold sumN; rfl
theorem bitN_lt {c : Nat} (h : c < 4294967296) : bitN c < 4294967296 := by
  unfold bitN
  split
  · exact Nat.xor_lt_two_pow (n := 32) (by omega) (by omega)
  · omega
theorem stN_lt {c : Nat} (h : c < 4294967296) : ∀ k, stN k c < 4294967296
  | 0 => h
  | k + 1 => bitN_lt (stN_lt h k)
theorem byte32 {c : Nat} (h : c < 4294967296) (x : UInt8) : c ^^^ x.toNat < 4294967296 := Nat.xor_lt_two_pow (n := 32) h (Nat.lt_trans x.toNat_lt (by decide))
theorem crcN_lt : ∀ {c : Nat} (_ : c < 4294967296) (l : List UInt8), crcN c l < 4294967296
  | _, h, [] => h
  | c, h, x :: l => crcN_lt (c := stN 8 (c ^^^ x.toNat)) (stN_lt (byte32 h x) 8) l
theorem crcN_snoc (c : Nat) (l : List UInt8) (x : UInt8) : crcN c (l ++ [x]) = stN 8 (crcN c l ^^^ x.toNat) := by simp [crcN]
theorem bitN_xor (a b : Nat) : bitN (a ^^^ b) = bitN a ^^^ bitN b := by
  have h := @Nat.xor_mod_two_eq_one a b
  unfold bitN
  rw [Nat.xor_div_two]
  by_cases ha : a % 2 = 1 <;> by_cases hb : b % 2 = 1
  · rw [if_neg (by rw [h]; simp [ha, hb]), if_pos ha, if_pos hb, Nat.xor_assoc, Nat.xor_comm 2197175160, Nat.xor_assoc (b / 2), Nat.xor_self, Nat.xor_zero]
  · rw [if_pos (by rw [h]; simp [ha, hb]), if_pos ha, if_neg hb, Nat.xor_assoc, Nat.xor_assoc, Nat.xor_comm (b / 2)]
  · rw [if_pos (by rw [h]; simp [ha, hb]), if_neg ha, if_pos hb, Nat.xor_assoc]
  · rw [if_neg (by rw [h]; simp [ha, hb]), if_neg ha, if_neg hb]
theorem stN_xor (a b : Nat) : ∀ k, stN k (a ^^^ b) = stN k a ^^^ stN k b
  | 0 => rfl
  | k + 1 => by unfold stN; rw [stN_xor a b k, bitN_xor]
theorem stN_add (a c : Nat) : ∀ b, stN (a + b) c = stN b (stN a c)
  | 0 => rfl
  | b + 1 => by show bitN (stN (a + b) c) = bitN (stN b (stN a c)); rw [stN_add a c b]
theorem bitN_even (q : Nat) : bitN (2 * q) = q := by unfold bitN; rw [if_neg (by omega)]; omega
theorem split16 (c : Nat) : c = (c / 16 * 16) ^^^ (c % 16) := by
  apply Nat.eq_of_testBit_eq
  intro i
  rw [Nat.testBit_xor]
  have h2 : (c / 16 * 16).testBit i = (decide (4 ≤ i) && (c / 16).testBit (i - 4)) := by
    have : c / 16 * 16 = (c / 16) <<< 4 := by rw [Nat.shiftLeft_eq]
    rw [this, Nat.testBit_shiftLeft]
  have h3 : (c % 16).testBit i = (decide (i < 4) && c.testBit i) := by
    have : c % 16 = c % 2 ^ 4 := by rfl
    rw [this, Nat.testBit_mod_two_pow]
  have h4 : (c / 16).testBit (i - 4) = c.testBit (4 + (i - 4)) := by
    have : c / 16 = c >>> 4 := by rw [Nat.shiftRight_eq_div_pow]
    rw [this, Nat.testBit_shiftRight]
  rw [h2, h3, h4]
  by_cases hi : 4 ≤ i
  · rw [show 4 + (i - 4) = i by omega]; simp [hi, Nat.not_lt.2 hi]
  · simp [hi, Nat.not_le.1 hi]
theorem stN_four (c : Nat) : stN 4 c = c / 16 ^^^ stN 4 (c % 16) := by
  have h : stN 4 (c / 16 * 16) = c / 16 := by
    show bitN (bitN (bitN (bitN (c / 16 * 16)))) = _
    rw [show c / 16 * 16 = 2 * (2 * (2 * (2 * (c / 16)))) by omega, bitN_even, bitN_even, bitN_even, bitN_even]
  conv => lhs; rw [split16 c, stN_xor, h]
theorem and15 (c : Nat) : c &&& 15 = c % 16 := Nat.and_two_pow_sub_one_eq_mod c 4
/-- The table. -/
def tabN : List Nat := (List.range 16).map (stN 4)
theorem tabN_at {i : Nat} (h : i < 16) : tabN[i]? = some (stN 4 i) := by unfold tabN; simp [h]
@[reducible] def w32 (n : Nat) : Value := .int .u32 ((n : Nat) : Int)
theorem four_step {c : Nat} {q r : Nat} (hq : q = c / 2 ^ 4) (hr : r = stN 4 (c &&& 15)) : q ^^^ r = stN 4 c := by subst hq hr; rw [and15, ← stN_four]
theorem foldl_snoc {f : Nat → UInt8 → Nat} (p : Nat) (l : List UInt8) (x : UInt8) : (l ++ [x]).foldl f p = f (l.foldl f p) x := by rw [List.foldl_append]; rfl
def nextB (p : Nat) (x : UInt8) : Nat := (p ^^^ x.toNat) * 1099511628211 % 18446744073709551616
theorem nextB_lt (p : Nat) (x : UInt8) : nextB p x < 18446744073709551616 := by unfold nextB; exact Nat.mod_lt _ (by decide)
def nextN (p : Nat) (l : List UInt8) : Nat := l.foldl nextB p
theorem nextN_snoc (p : Nat) (l : List UInt8) (x : UInt8) : nextN p (l ++ [x]) = nextB (nextN p l) x := foldl_snoc p l x
theorem nextN_lt {p : Nat} (hp : p < 18446744073709551616) (l : List UInt8) : nextN p l < 18446744073709551616 := by
  rcases List.eq_nil_or_concat l with rfl | ⟨m, x, rfl⟩
  · exact hp
  · rw [List.concat_eq_append, nextN_snoc]; exact nextB_lt _ _
def sealN (l : List UInt8) : List UInt8 := l ++ [UInt8.ofNat (sumN l), UInt8.ofNat (sumN l / 2 ^ 8), UInt8.ofNat (sumN l / 2 ^ 16), UInt8.ofNat (sumN l / 2 ^ 24)]

set_option maxRecDepth 100000 in
set_option maxHeartbeats 2000000 in
theorem table_any {h : Heap} :
    HC Try.prog 132 #[] h (fun v h' => v = .agg (tabN.map w32).toArray ∧ Ext h h') := by
  have ok := Hp.nil h none_
  refine HC.go Try.func132 26 ?_
  refine .seq <| .r <| .a' 0 (.alA T.zr181 ok) ?_
  rintro _ η1 ⟨pb1, rfl, ok, xe⟩
  refine .nil ?_
  refine .seq <| .r <| .a' 1 (.alA T.zr181 ok) ?_
  rintro _ η2 ⟨pb2, rfl, ok, xe⟩
  refine .nil ?_
  refine .seq <| .seq <| .r <| .w 5 .mvI <| .nil ?_
  refine .block fun K0 hK0 => .loop (fun m s hh => ∃ (i : Nat), Has s [(0, .pointer (some ⟨pb1, 0, none⟩)), (1, .pointer (some ⟨pb2, 0, none⟩)), (5, .int .i64 (i : Int))] ∧ Hp h none_ [boxI pb2 181 (((List.range i).map (stN 4) ++ List.replicate (16 - i) 0).map w32), boxI pb1 181 [.int .u32 0, .int .u32 0, .int .u32 0, .int .u32 0, .int .u32 0, .int .u32 0, .int .u32 0, .int .u32 0, .int .u32 0, .int .u32 0, .int .u32 0, .int .u32 0, .int .u32 0, .int .u32 0, .int .u32 0, .int .u32 0]] [] hh ∧ i ≤ 16 ∧ m = 16 - i) ?_ ?_
  · exact ⟨_, 0, ⟨rfl, rfl, rfl, trivial⟩, ok.n1.n1.bx (by rfl), Nat.zero_le _, rfl⟩
  rintro _ _ η3 ⟨i, hs, ok, hi, rfl⟩ J0 hJ0
  refine .frame hs fun τ => ?_
  refine .seq <| .r <| .w 6 .lss <| .nil ?_
  refine .seq <| .cdr (fun C0 => ?_) (fun C0 => ?_)
  · --
    have hi16 : i = 16 := by omega
    subst hi16
    refine .exit <| hK0 _ _ <| .seq <| .r <| .w 25 (.ldb T.ag181 ok.m0 T.sz181) <| .ur' (.stW (vs := tabN.map w32) T.sz181 ok.n1 (oneL rfl)) ?_
    rintro η4 ⟨ok, cg⟩
    refine .nil ?_
    refine .ret ⟨.agg (tabN.map w32).toArray, Res.many (vs := [.agg (tabN.map w32).toArray]) rfl ⟨⟨_, rfl, load_ag T.ag181 ok.m0 T.sz181⟩, trivial⟩ rfl, ⟨rfl, ok.chg⟩⟩
  refine .skip <| .seq <| .block fun K1 hK1 => .seq <| .r <| .w 7 .mvI <| .w 2 .asI <| .nil ?_
  refine .seq <| .r <| .w 8 .mvI <| .w 9 (.cvm T.in145 T.in3 (M := 4294967296) rfl rfl) <| .w 3 .asI <| .nil ?_
  refine .seq <| .seq <| .r <| .w 10 .mvI <| .nil ?_
  refine .block fun K2 hK2 => .loop (fun m s hh => ∃ (k cc : Nat), Has s [(0, .pointer (some ⟨pb1, 0, none⟩)), (1, .pointer (some ⟨pb2, 0, none⟩)), (2, .int .i64 (i : Int)), (3, .int .u32 (cc : Int)), (5, .int .i64 (i : Int)), (10, .int .i64 (k : Int))] ∧ Hp h none_ [boxI pb2 181 (((List.range i).map (stN 4) ++ List.replicate (16 - i) 0).map w32), boxI pb1 181 [.int .u32 0, .int .u32 0, .int .u32 0, .int .u32 0, .int .u32 0, .int .u32 0, .int .u32 0, .int .u32 0, .int .u32 0, .int .u32 0, .int .u32 0, .int .u32 0, .int .u32 0, .int .u32 0, .int .u32 0, .int .u32 0]] [] hh ∧ k ≤ 4 ∧ cc = stN k i ∧ m = 4 - k) ?_ ?_
  · exact ⟨_, 0, _, ⟨rfl, rfl, rfl, rfl, rfl, rfl, trivial⟩, ok.n1.n1, Nat.zero_le _, Nat.mod_eq_of_lt (by omega), rfl⟩
  rintro _ _ η5 ⟨k, cc, hs, ok, hk, hcc, rfl⟩ J1 hJ1
  refine .frame hs fun τ => ?_
  refine .seq <| .r <| .w 11 .lss <| .nil ?_
  refine .seq <| .cdr (fun C1 => ?_) (fun C1 => ?_)
  · --
    have hk4 : k = 4 := by omega
    rw [hk4] at hcc
    have hil : i < ((List.range i).map (stN 4) ++ List.replicate (16 - i) 0).length := by simp; omega
    have hset : (((List.range i).map (stN 4) ++ List.replicate (16 - i) 0).set i cc) = (List.range (i + 1)).map (stN 4) ++ List.replicate (16 - (i + 1)) 0 := by
      rw [hcc, List.set_append_right _ _ (by simp), show 16 - i = 16 - (i + 1) + 1 by omega, List.replicate_succ, List.range_succ]
      simp
    refine .exit <| hK2 _ _ <| .r <| .w 21 .mvI <| .w 22 .mvI <| .w 23 (.ixa i T.ar181 T.sz145) <| .ur' (.sa (f := w32) cc T.sz145 ok (q := i) hil) ?_
    rintro η6 ⟨ok, cg⟩
    refine .nil ?_
    refine .end <| hK1 _ _ <| .r <| .w 24 (.addI (b := 1)) <| .w 5 .mvI <| .nil ?_
    refine .end <| hJ0 _ _ _ ⟨i + 1, ⟨rfl, rfl, rfl, trivial⟩, ok.n1.n1.bx (by rw [hset]), by omega, rfl⟩ (by omega)
  have hcl : cc < 4294967296 := by rw [hcc]; exact stN_lt (by omega) k
  have ha1 : cc &&& 1 = cc % 2 := Nat.and_one_is_mod cc
  refine .skip <| .seq <| .block fun K3 hK3 => .seq <| .r <| .w 12 .mvI <| .w 13 (.band (M := 4294967296) rfl rfl (b := 1) (ha := by omega)) <| .w 4 .asI <| .nil ?_
  refine .seq <| .r <| .w 14 .mvI <| .w 15 (.shrn (M := 4294967296) rfl (b := 1)) <| .w 3 .asI <| .nil ?_
  refine .seq <| .r <| .w 16 .mvI <| .w 17 .eql <| .nil ?_
  refine .cd (fun C2 => ?_) (fun C2 => ?_)
  · --
    have hnx : cc / 2 ^ 1 ^^^ 2197175160 = stN (k + 1) i := by show _ = bitN (stN k i); rw [← hcc]; unfold bitN; rw [if_pos (by omega)]
    refine .r <| .w 18 .mvI <| .w 19 (.bxor (M := 4294967296) rfl rfl (b := 2197175160)) <| .w 3 .asI <| .nil ?_
    refine .end <| hK3 _ _ <| .r <| .w 20 (.addI (b := 1)) <| .w 10 .mvI <| .nil ?_
    refine .end <| hJ1 _ _ _ ⟨k + 1, _, ⟨rfl, rfl, rfl, rfl, rfl, rfl, trivial⟩, ok.n1.n1, by omega, hnx, rfl⟩ (by omega)
  have hnx : cc / 2 ^ 1 = stN (k + 1) i := by show _ = bitN (stN k i); rw [← hcc]; unfold bitN; rw [if_neg (by omega)]
  refine .skip <| .end <| hK3 _ _ <| .r <| .w 20 (.addI (b := 1)) <| .w 10 .mvI <| .nil ?_
  refine .end <| hJ1 _ _ _ ⟨k + 1, _, ⟨rfl, rfl, rfl, rfl, rfl, rfl, trivial⟩, ok.n1.n1, by omega, hnx, rfl⟩ (by omega)

theorem and15_lt (c : Nat) : c &&& 15 < 16 := by rw [and15]; omega

set_option maxRecDepth 100000 in
set_option maxHeartbeats 2000000 in
theorem sum_any {h : Heap} {F E : Nat → Prop} {a : Option Addr} {c : Nat} {L : List (List UInt8)} (hl : RdL h F E (a, L.length, c) L) :
    HC Try.prog 115 #[.slice a L.length c] h (fun v h' => v = .int .u32 ((sumN L.flatten : Nat) : Int) ∧ Ext h h') := by
  have hc2 := hl.m
  have hc1 : L.length ≤ c := hl.c
  simp only at hc2
  have ok := (Hp.nil h none_).arg hl
  refine HC.go Try.func115 44 ?_
  refine .seq <| .r <| .w 2 .asI <| .nil ?_
  refine .seq <| .r <| .c' 9 .func table_any ?_
  rintro _ η1 ⟨rfl, hx⟩
  have ok := ok.ext hx
  refine .a' 3 (.alA T.zr181 ok) ?_
  rintro _ η2 ⟨pb1, rfl, ok, xe⟩
  refine .ur' (.stW (vs := tabN.map w32) T.sz181 ok (oneL rfl)) ?_
  rintro η3 ⟨ok, cg⟩
  refine .nil ?_
  refine .seq <| .r <| .w 4 .asI <| .nil ?_
  refine .seq <| .seq <| .r <| .w 10 .mvS <| .w 11 (.len T.el143) <| .w 12 .mvI <| .nil ?_
  refine .block fun K0 hK0 => .loop (fun m s hh => ∃ (i cc : Nat), Has s [(3, .pointer (some ⟨pb1, 0, none⟩)), (4, .int .u32 (cc : Int)), (10, .slice a L.length c), (11, .int .i64 (L.length : Int)), (12, .int .i64 (i : Int))] ∧ Hp h none_ [boxI pb1 181 (tabN.map w32)] [rdI (fun j => F j ∧ j < h.size) (fun j => E j ∧ j < h.size) (a, L.length, c) L] hh ∧ i ≤ L.length ∧ cc = crcN 4294967295 (L.take i).flatten ∧ m = L.length - i) ?_ ?_
  · exact ⟨_, 0, 4294967295, ⟨rfl, rfl, rfl, rfl, rfl, trivial⟩, ok, Nat.zero_le _, rfl, rfl⟩
  rintro _ _ η4 ⟨i, cc, hs, ok, hi, hcc, rfl⟩ J0 hJ0
  refine .frame hs fun τ => ?_
  refine .seq <| .r <| .w 13 .lss <| .nil ?_
  refine .seq <| .cdr (fun C0 => ?_) (fun C0 => ?_)
  · --
    have hil : i = L.length := by omega
    rw [hil, List.take_length] at hcc
    have hcl : cc < 4294967296 := by rw [hcc]; exact crcN_lt (by decide) _
    refine .exit <| hK0 _ _ <| .seq <| .r <| .w 42 .mvI <| .w 43 (.cpl (M := 4294967296) rfl rfl) <| .w 2 .asI <| .nil ?_
    refine .ret ⟨.int .u32 (((4294967295 - cc) : Nat) : Int), Res.one rfl rfl, ⟨by rw [hcc, sumN_def], ok.chg⟩⟩
  have hil : i < L.length := by omega
  refine .skip <| .seq <| .block fun K1 hK1 => .seq <| .r <| ?_
  obtain ⟨bb1, oo1, rfl, fb1⟩ := ok.r0.pos (by omega)
  refine .w 14 (.ix1 i T.el143 T.sz22) <| ?_
  obtain ⟨ya1, yc1, he1, hr1⟩ := ok.r0.row (i := i) (by omega)
  have ok := ok.d0 (rdI (fun j => E j ∧ j < h.size) (fun j => E j ∧ j < h.size) (ya1, L[i].length, yc1) (L[i])) hr1 (fun _ h => .inr (h.elim id id))
  refine .w 15 (.ld T.ag22 he1) <| .w 6 .asS <| .nil ?_
  refine .seq <| ?_
  have hrc : L[i].length ≤ _ := ok.r0.c
  have hrm := ok.r0.m
  simp only at hrc hrm
  refine .r <| .w 16 .mvS <| .w 17 (.len T.el22) <| .w 18 .mvI <| .nil ?_
  refine .block fun K2 hK2 => .loop (fun m s hh => ∃ (j cc : Nat), Has s [(3, .pointer (some ⟨pb1, 0, none⟩)), (4, .int .u32 (cc : Int)), (10, .slice (some ⟨bb1, oo1, none⟩) L.length c), (11, .int .i64 (L.length : Int)), (12, .int .i64 (i : Int)), (16, .slice ya1 (L[i].length) yc1), (17, .int .i64 ((L[i].length : Nat) : Int)), (18, .int .i64 (j : Int))] ∧ Hp h none_ [boxI pb1 181 (tabN.map w32)] [rdI (fun j => E j ∧ j < h.size) (fun j => E j ∧ j < h.size) (ya1, L[i].length, yc1) (L[i]), rdI (fun j => F j ∧ j < h.size) (fun j => E j ∧ j < h.size) (some ⟨bb1, oo1, none⟩, L.length, c) L] hh ∧ j ≤ L[i].length ∧ cc = crcN 4294967295 ((L.take i).flatten ++ L[i].take j) ∧ m = L[i].length - j) ?_ ?_
  · exact ⟨_, 0, _, ⟨rfl, rfl, rfl, rfl, rfl, rfl, rfl, rfl, trivial⟩, ok, Nat.zero_le _, by simp [hcc], rfl⟩
  rintro _ _ η5 ⟨j, cc, hs, ok, hj, hcc, rfl⟩ J1 hJ1
  refine .frame hs fun τ => ?_
  refine .seq <| .r <| .w 19 .lss <| .nil ?_
  refine .seq <| .cdr (fun C1 => ?_) (fun C1 => ?_)
  · --
    have hjl : j = L[i].length := by omega
    rw [hjl, List.take_length, ← flat_snoc hil] at hcc
    refine .exit <| hK2 _ _ <| .end <| hK1 _ _ <| .r <| .w 41 (.addI (b := 1)) <| .w 12 .mvI <| .nil ?_
    refine .end <| hJ0 _ _ _ ⟨i + 1, _, ⟨rfl, rfl, rfl, rfl, rfl, trivial⟩, ok.tR, by omega, hcc, rfl⟩ (by omega)
  have hjl : j < L[i].length := by omega
  have hcl : cc < 4294967296 := by rw [hcc]; exact crcN_lt (by decide) _
  have hxl := byte_lt L[i][j]
  have hyl := byte32 hcl L[i][j]
  have hs1 := four_step (c := cc ^^^ L[i][j].toNat) rfl rfl
  have hzl := stN_lt hyl 4
  have hs2 := four_step (c := stN 4 (cc ^^^ L[i][j].toNat)) rfl rfl
  have hw1 := stN_lt (c := (cc ^^^ L[i][j].toNat) &&& 15) (by have := and15_lt (cc ^^^ L[i][j].toNat); omega) 4
  have hw2 := stN_lt (c := stN 4 (cc ^^^ L[i][j].toNat) &&& 15) (by have := and15_lt (stN 4 (cc ^^^ L[i][j].toNat)); omega) 4
  have hs3 : stN 8 (cc ^^^ L[i][j].toNat) = stN 4 (stN 4 (cc ^^^ L[i][j].toNat)) := stN_add 4 _ 4
  have hsn : crcN 4294967295 ((L.take i).flatten ++ L[i].take (j + 1)) = stN 4 (stN 4 (cc ^^^ L[i][j].toNat)) := by rw [take_next hjl, ← List.append_assoc, crcN_snoc, ← hcc, hs3]
  refine .skip <| .seq <| .block fun K3 hK3 => .seq <| .r <| ?_
  obtain ⟨bb2, oo2, rfl, fb2⟩ := ok.r0.pos (by omega)
  refine .w 20 (.ix1 j T.el22 T.sz5) <| .w 21 (.ld T.ag5 (ok.r0.u8 (i := j) (by omega))) <| .w 8 .asI <| .nil ?_
  refine .seq <| .r <| .w 22 .mvI <| .w 23 .mvI <| .w 24 (.cvs T.in145 T.in5 (M := 4294967296) rfl rfl) <| .w 25 (.bxor (M := 4294967296) rfl rfl) <| .w 4 .asI <| .nil ?_
  refine .seq <| .r <| .w 26 .mvI <| .w 27 (.shrn (M := 4294967296) rfl (b := 4)) <| .w 28 .mvI <| .w 29 (.band (M := 4294967296) rfl rfl (b := 15)) <| .w 30 (.ixa ((cc ^^^ (L[i])[j].toNat) &&& 15) T.ar181 T.sz145 (hi := by (have := and15_lt (cc ^^^ L[i][j].toNat); omega))) <| .w 31 (.ldx (o := 0 + ((cc ^^^ (L[i])[j].toNat) &&& 15)) (v := .int .u32 ((stN 4 ((cc ^^^ (L[i])[j].toNat) &&& 15) : Nat) : Int)) T.ag145 ok.m0 (hv := by rw [Nat.zero_add, List.getElem?_map, tabN_at (and15_lt _)]; rfl)) <| .w 32 (.bxor (M := 4294967296) rfl rfl (b := (stN 4 ((cc ^^^ (L[i])[j].toNat) &&& 15))) (hb := by exact hw1)) <| ?_
  rw [show (((cc ^^^ (L[i])[j].toNat) / 2 ^ 4) ^^^ (stN 4 ((cc ^^^ (L[i])[j].toNat) &&& 15))) = stN 4 (cc ^^^ L[i][j].toNat) from hs1]
  refine .w 4 .asI <| .nil ?_
  refine .r <| .w 33 .mvI <| .w 34 (.shrn (M := 4294967296) rfl (b := 4)) <| .w 35 .mvI <| .w 36 (.band (M := 4294967296) rfl rfl (b := 15)) <| .w 37 (.ixa (stN 4 (cc ^^^ L[i][j].toNat) &&& 15) T.ar181 T.sz145 (hi := by (have := and15_lt (stN 4 (cc ^^^ L[i][j].toNat)); omega))) <| .w 38 (.ldx (o := 0 + (stN 4 (cc ^^^ L[i][j].toNat) &&& 15)) (v := .int .u32 ((stN 4 (stN 4 (cc ^^^ L[i][j].toNat) &&& 15) : Nat) : Int)) T.ag145 ok.m0 (hv := by rw [Nat.zero_add, List.getElem?_map, tabN_at (and15_lt _)]; rfl)) <| .w 39 (.bxor (M := 4294967296) rfl rfl (b := (stN 4 (stN 4 (cc ^^^ L[i][j].toNat) &&& 15))) (hb := by exact hw2)) <| ?_
  rw [show ((stN 4 (cc ^^^ L[i][j].toNat) / 2 ^ 4) ^^^ (stN 4 (stN 4 (cc ^^^ L[i][j].toNat) &&& 15))) = stN 4 (stN 4 (cc ^^^ L[i][j].toNat)) from hs2]
  refine .w 4 .asI <| .nil ?_
  refine .end <| hK3 _ _ <| .r <| .w 40 (.addI (b := 1)) <| .w 18 .mvI <| .nil ?_
  refine .end <| hJ1 _ _ _ ⟨j + 1, _, ⟨rfl, rfl, rfl, rfl, rfl, rfl, rfl, rfl, trivial⟩, ok, by omega, hsn.symm, rfl⟩ (by omega)

set_option maxRecDepth 100000 in
set_option maxHeartbeats 2000000 in
theorem next_any {h : Heap} {F E : Nat → Prop} {a : Option Addr} {c p : Nat} {l : List UInt8} (hp : p < 18446744073709551616) (hl : RdL h F E (a, l.length, c) l) :
    HC Try.prog 90 #[.int .u64 (p : Int), .slice a l.length c] h (fun v h' => v = .int .u64 ((nextN p l : Nat) : Int) ∧ h' = h) := by
  have hc2 := hl.m
  have hc1 : l.length ≤ c := hl.c
  simp only at hc2
  refine HC.go Try.func90 20 ?_
  refine .seq <| .r <| .w 4 .asI <| .nil ?_
  refine .seq <| .seq <| .r <| .w 7 .mvS <| .w 8 (.len T.el22) <| .w 9 .mvI <| .nil ?_
  refine .block fun K0 hK0 => .loop (fun m s hh => ∃ (i q : Nat), Has s [(0, .int .u64 (q : Int)), (7, .slice a l.length c), (8, .int .i64 (l.length : Int)), (9, .int .i64 (i : Int))] ∧ h = hh ∧ i ≤ l.length ∧ q = nextN p (l.take i) ∧ m = l.length - i) ?_ ?_
  · exact ⟨_, 0, p, ⟨rfl, rfl, rfl, rfl, trivial⟩, rfl, Nat.zero_le _, rfl, rfl⟩
  rintro _ _ _ ⟨i, q, hs, rfl, hi, hq, rfl⟩ J0 hJ0
  refine .frame hs fun τ => ?_
  refine .seq <| .r <| .w 10 .lss <| .nil ?_
  refine .seq <| .cdr (fun C0 => ?_) (fun C0 => ?_)
  · --
    have hil : i = l.length := by omega
    rw [hil, List.take_length] at hq
    refine .exit <| hK0 _ _ <| .seq <| .r <| .w 19 .mvI <| .w 4 .asI <| .nil ?_
    refine .ret ⟨.int .u64 (q : Int), Res.one rfl rfl, ⟨by rw [hq], rfl⟩⟩
  have hil : i < l.length := by omega
  have hql : q < 18446744073709551616 := by rw [hq]; exact nextN_lt hp _
  have hxl := byte_lt l[i]
  have hsn : nextN p (l.take (i + 1)) = nextB q l[i] := by rw [take_next hil, nextN_snoc, hq]
  refine .skip <| .seq <| .block fun K1 hK1 => .seq <| .r <| ?_
  obtain ⟨bb1, oo1, rfl, fb1⟩ := hl.pos (by omega)
  refine .w 11 (.ix1 i T.el22 T.sz5) <| .w 12 (.ld T.ag5 (hl.u8 (i := i) (by omega))) <| .w 6 .asI <| .nil ?_
  refine .r <| .w 13 .mvI <| .w 14 .mvI <| .w 15 (.cvs T.in25 T.in5 (M := 18446744073709551616) rfl rfl) <| .w 16 (.bxor (M := 18446744073709551616) rfl rfl) <| .w 17 (.muln (M := 18446744073709551616) rfl rfl (b := 1099511628211)) <| .w 0 .asI <| .nil ?_
  refine .end <| hK1 _ _ <| .r <| .w 18 (.addI (b := 1)) <| .w 9 .mvI <| .nil ?_
  refine .end <| hJ0 _ _ _ ⟨i + 1, _, ⟨rfl, rfl, rfl, rfl, trivial⟩, rfl, by omega, hsn.symm, rfl⟩ (by omega)

set_option maxRecDepth 100000 in
set_option maxHeartbeats 2000000 in
theorem rnext_any {h : Heap} {F E : Nat → Prop} {a : Option Addr} {c p : Nat} {l : List UInt8} (hp : p < 18446744073709551616) (hl : RdL h F E (a, l.length, c) l) :
    HC Try.prog 87 #[.int .u64 (p : Int), .slice a l.length c] h (fun v h' => v = .int .u64 ((nextN p l : Nat) : Int) ∧ h' = h) := by
  have hc2 := hl.m
  have hc1 : l.length ≤ c := hl.c
  simp only at hc2
  refine HC.go Try.func87 23 ?_
  refine .seq <| .r <| .w 4 .asI <| .nil ?_
  refine .seq <| .r <| .w 7 .mvI <| .w 5 .asI <| .nil ?_
  refine .seq <| .seq <| .r <| .w 6 .asI <| .nil ?_
  refine .block fun K0 hK0 => .loop (fun m s hh => ∃ (i q : Nat), Has s [(1, .slice a l.length c), (5, .int .u64 (q : Int)), (6, .int .i64 (i : Int))] ∧ h = hh ∧ i ≤ l.length ∧ q = nextN p (l.take i) ∧ m = l.length - i) ?_ ?_
  · exact ⟨_, 0, p, ⟨rfl, rfl, rfl, trivial⟩, rfl, Nat.zero_le _, rfl, rfl⟩
  rintro _ _ _ ⟨i, q, hs, rfl, hi, hq, rfl⟩ J0 hJ0
  refine .frame hs fun τ => ?_
  refine .seq <| .seq <| .r <| .w 8 .mvI <| .w 9 .mvS <| .w 10 (.len T.el22) <| .w 11 .lss <| .nil ?_
  refine .cdr (fun C0 => ?_) (fun C0 => ?_)
  · --
    have hil : i = l.length := by omega
    rw [hil, List.take_length] at hq
    refine .exit <| hK0 _ _ <| .seq <| .r <| .w 22 .mvI <| .w 4 .asI <| .nil ?_
    refine .ret ⟨.int .u64 (q : Int), Res.one rfl rfl, ⟨by rw [hq], rfl⟩⟩
  have hil : i < l.length := by omega
  have hql : q < 18446744073709551616 := by rw [hq]; exact nextN_lt hp _
  have hxl := byte_lt l[i]
  have hsn : nextN p (l.take (i + 1)) = nextB q l[i] := by rw [take_next hil, nextN_snoc, hq]
  refine .skip <| .seq <| .block fun K1 hK1 => .r <| .w 14 .mvI <| .w 15 .mvS <| .w 16 .mvI <| ?_
  obtain ⟨bb1, oo1, rfl, fb1⟩ := hl.pos (by omega)
  refine .w 17 (.ix1 i T.el22 T.sz5) <| .w 18 (.ld T.ag5 (hl.u8 (i := i) (by omega))) <| .w 19 (.cvs T.in25 T.in5 (M := 18446744073709551616) rfl rfl) <| .w 20 (.bxor (M := 18446744073709551616) rfl rfl) <| .w 21 (.muln (M := 18446744073709551616) rfl rfl (b := 1099511628211)) <| .w 5 .asI <| .nil ?_
  refine .end <| hK1 _ _ <| .r <| .w 12 .mvI <| .w 13 (.addI (b := 1)) <| .w 6 .asI <| .nil ?_
  refine .end <| hJ0 _ _ _ ⟨i + 1, _, ⟨rfl, rfl, rfl, trivial⟩, rfl, by omega, hsn.symm, rfl⟩ (by omega)

set_option maxRecDepth 100000 in
set_option maxHeartbeats 2000000 in
theorem rsum_any {h : Heap} {F E : Nat → Prop} {a : Option Addr} {c : Nat} {l : List UInt8} (hl : RdL h F E (a, l.length, c) l) :
    HC Try.prog 96 #[.slice a l.length c] h (fun v h' => v = .int .u32 ((sumN l : Nat) : Int) ∧ h' = h) := by
  have hc2 := hl.m
  have hc1 : l.length ≤ c := hl.c
  simp only at hc2
  refine HC.go Try.func96 33 ?_
  refine .seq <| .r <| .w 2 .asI <| .nil ?_
  refine .seq <| .r <| .w 3 .asI <| .nil ?_
  refine .seq <| .seq <| .r <| .w 4 .asI <| .nil ?_
  refine .block fun K0 hK0 => .loop (fun m s hh => ∃ (i cc : Nat), Has s [(0, .slice a l.length c), (3, .int .u32 (cc : Int)), (4, .int .i64 (i : Int))] ∧ h = hh ∧ i ≤ l.length ∧ cc = crcN 4294967295 (l.take i) ∧ m = l.length - i) ?_ ?_
  · exact ⟨_, 0, 4294967295, ⟨rfl, rfl, rfl, trivial⟩, rfl, Nat.zero_le _, rfl, rfl⟩
  rintro _ _ _ ⟨i, cc, hs, rfl, hi, hcc, rfl⟩ J0 hJ0
  refine .frame hs fun τ => ?_
  refine .seq <| .seq <| .r <| .w 6 .mvI <| .w 7 .mvS <| .w 8 (.len T.el22) <| .w 9 .lss <| .nil ?_
  refine .cdr (fun C0 => ?_) (fun C0 => ?_)
  · --
    have hil : i = l.length := by omega
    rw [hil, List.take_length] at hcc
    have hcl : cc < 4294967296 := by rw [hcc]; exact crcN_lt (by decide) _
    refine .exit <| hK0 _ _ <| .seq <| .r <| .w 31 .mvI <| .w 32 (.subn (M := 4294967296) rfl rfl (a := 4294967295)) <| .w 2 .asI <| .nil ?_
    refine .ret ⟨.int .u32 (((4294967295 - cc) : Nat) : Int), Res.one rfl rfl, ⟨by rw [hcc, sumN_def], rfl⟩⟩
  have hil : i < l.length := by omega
  have hcl : cc < 4294967296 := by rw [hcc]; exact crcN_lt (by decide) _
  have hxl := byte_lt l[i]
  have hyl := byte32 hcl l[i]
  have hsn : crcN 4294967295 (l.take (i + 1)) = stN 8 (cc ^^^ l[i].toNat) := by rw [take_next hil, crcN_snoc, ← hcc]
  refine .skip <| .seq <| .block fun K1 hK1 => .seq <| .r <| .w 12 .mvI <| .w 13 .mvS <| .w 14 .mvI <| ?_
  obtain ⟨bb1, oo1, rfl, fb1⟩ := hl.pos (by omega)
  refine .w 15 (.ix1 i T.el22 T.sz5) <| .w 16 (.ld T.ag5 (hl.u8 (i := i) (by omega))) <| .w 17 (.cvs T.in145 T.in5 (M := 4294967296) rfl rfl) <| .w 18 (.bxor (M := 4294967296) rfl rfl) <| .w 3 .asI <| .nil ?_
  refine .seq <| .r <| .w 5 .asI <| .nil ?_
  refine .block fun K2 hK2 => .loop (fun m s hh => ∃ (k dd : Nat), Has s [(0, .slice (some ⟨bb1, oo1, none⟩) l.length c), (3, .int .u32 (dd : Int)), (4, .int .i64 (i : Int)), (5, .int .i64 (k : Int))] ∧ h = hh ∧ k ≤ 8 ∧ dd = stN k (cc ^^^ l[i].toNat) ∧ m = 8 - k) ?_ ?_
  · exact ⟨_, 0, _, ⟨rfl, rfl, rfl, rfl, trivial⟩, rfl, Nat.zero_le _, rfl, rfl⟩
  rintro _ _ _ ⟨k, dd, hs, rfl, hk, hdd, rfl⟩ J1 hJ1
  refine .frame hs fun τ => ?_
  refine .seq <| .seq <| .r <| .w 19 .mvI <| .w 20 .lss <| .nil ?_
  refine .cdr (fun C1 => ?_) (fun C1 => ?_)
  · --
    have hk8 : k = 8 := by omega
    rw [hk8] at hdd
    refine .exit <| hK2 _ _ <| .end <| hK1 _ _ <| .r <| .w 10 .mvI <| .w 11 (.addI (b := 1)) <| .w 4 .asI <| .nil ?_
    refine .end <| hJ0 _ _ _ ⟨i + 1, _, ⟨rfl, rfl, rfl, trivial⟩, rfl, by omega, by rw [hdd, hsn], rfl⟩ (by omega)
  have hdl : dd < 4294967296 := by rw [hdd]; exact stN_lt hyl k
  refine .skip <| .seq <| .block fun K3 hK3 => .seq <| .r <| .w 23 .mvI <| .w 24 (.remn (b := 2)) <| .w 25 .eql <| .nil ?_
  refine .cd (fun C2 => ?_) (fun C2 => ?_)
  · --
    have hnx : dd / 2 ^^^ 2197175160 = stN (k + 1) (cc ^^^ l[i].toNat) := by show _ = bitN (stN k _); rw [← hdd]; unfold bitN; rw [if_pos (by omega)]
    refine .r <| .w 26 .mvI <| .w 27 (.quon (M := 4294967296) rfl rfl (b := 2)) <| .w 28 (.bxor (M := 4294967296) rfl rfl (b := 2197175160)) <| .w 3 .asI <| .nil ?_
    refine .end <| hK3 _ _ <| .r <| .w 21 .mvI <| .w 22 (.addI (b := 1)) <| .w 5 .asI <| .nil ?_
    refine .end <| hJ1 _ _ _ ⟨k + 1, _, ⟨rfl, rfl, rfl, rfl, trivial⟩, rfl, by omega, hnx, rfl⟩ (by omega)
  have hnx : dd / 2 = stN (k + 1) (cc ^^^ l[i].toNat) := by show _ = bitN (stN k _); rw [← hdd]; unfold bitN; rw [if_neg (by omega)]
  refine .r <| .w 29 .mvI <| .w 30 (.quon (M := 4294967296) rfl rfl (b := 2)) <| .w 3 .asI <| .nil ?_
  refine .end <| hK3 _ _ <| .r <| .w 21 .mvI <| .w 22 (.addI (b := 1)) <| .w 5 .asI <| .nil ?_
  refine .end <| hJ1 _ _ _ ⟨k + 1, _, ⟨rfl, rfl, rfl, rfl, trivial⟩, rfl, by omega, hnx, rfl⟩ (by omega)

end Go.Proofs.Ytpebbkhainpfaaa
