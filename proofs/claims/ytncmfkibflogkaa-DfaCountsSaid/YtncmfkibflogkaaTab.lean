/- Closed facts on the types and functions of this seat, printed by a program. -/
import Derived.Test.YtncmfkibflogkaaOps
import Derived.Test.YtncmfkibflogkaaChecked
namespace Go.Proofs
open Go Go.Eng
set_option maxRecDepth 100000
theorem siz1 : Siz Try.prog 1 1 := by unfold Siz; kernel_rfl
theorem byt1 : Byt Try.prog 1 8 := by unfold Byt; kernel_rfl
theorem zer1 : Zer Try.prog 1 .nilFunc := by unfold Zer; kernel_rfl
theorem flat1 : flatB Try.prog 1 = true := by kernel_rfl
theorem siz2 : Siz Try.prog 2 1 := by unfold Siz; kernel_rfl
theorem byt2 : Byt Try.prog 2 8 := by unfold Byt; kernel_rfl
theorem zer2 : Zer Try.prog 2 (.int .i64 0) := by unfold Zer; kernel_rfl
theorem flat2 : flatB Try.prog 2 = true := by kernel_rfl
theorem siz3 : Siz Try.prog 3 1 := by unfold Siz; kernel_rfl
theorem byt3 : Byt Try.prog 3 8 := by unfold Byt; kernel_rfl
theorem zer3 : Zer Try.prog 3 (.int .i64 0) := by unfold Zer; kernel_rfl
theorem flat3 : flatB Try.prog 3 = true := by kernel_rfl
theorem siz4 : Siz Try.prog 4 1 := by unfold Siz; kernel_rfl
theorem byt4 : Byt Try.prog 4 1 := by unfold Byt; kernel_rfl
theorem zer4 : Zer Try.prog 4 (.bool false) := by unfold Zer; kernel_rfl
theorem flat4 : flatB Try.prog 4 = true := by kernel_rfl
theorem siz5 : Siz Try.prog 5 1 := by unfold Siz; kernel_rfl
theorem byt5 : Byt Try.prog 5 1 := by unfold Byt; kernel_rfl
theorem zer5 : Zer Try.prog 5 (.int .u8 0) := by unfold Zer; kernel_rfl
theorem flat5 : flatB Try.prog 5 = true := by kernel_rfl
theorem siz6 : Siz Try.prog 6 1 := by unfold Siz; kernel_rfl
theorem byt6 : Byt Try.prog 6 1 := by unfold Byt; kernel_rfl
theorem zer6 : Zer Try.prog 6 (.int .u8 0) := by unfold Zer; kernel_rfl
theorem flat6 : flatB Try.prog 6 = true := by kernel_rfl
theorem siz7 : Siz Try.prog 7 4 := by unfold Siz; kernel_rfl
theorem byt7 : Byt Try.prog 7 24 := by unfold Byt; kernel_rfl
theorem zer7 : Zer Try.prog 7 (.agg #[(.int .i64 0), (.int .i64 0), (.bool false), (.int .u8 0)]) := by unfold Zer; kernel_rfl
theorem agg7 : aggB Try.prog 7 = true := by kernel_rfl
theorem siz8 : Siz Try.prog 8 4 := by unfold Siz; kernel_rfl
theorem byt8 : Byt Try.prog 8 24 := by unfold Byt; kernel_rfl
theorem zer8 : Zer Try.prog 8 (.agg #[(.int .i64 0), (.int .i64 0), (.bool false), (.int .u8 0)]) := by unfold Zer; kernel_rfl
theorem agg8 : aggB Try.prog 8 = true := by kernel_rfl
theorem siz9 : Siz Try.prog 9 1 := by unfold Siz; kernel_rfl
theorem byt9 : Byt Try.prog 9 16 := by unfold Byt; kernel_rfl
theorem zer9 : Zer Try.prog 9 (.string ByteArray.empty) := by unfold Zer; kernel_rfl
theorem flat9 : flatB Try.prog 9 = true := by kernel_rfl
theorem siz10 : Siz Try.prog 10 1 := by unfold Siz; kernel_rfl
theorem byt10 : Byt Try.prog 10 16 := by unfold Byt; kernel_rfl
theorem zer10 : Zer Try.prog 10 (.string ByteArray.empty) := by unfold Zer; kernel_rfl
theorem flat10 : flatB Try.prog 10 = true := by kernel_rfl
theorem siz11 : Siz Try.prog 11 1 := by unfold Siz; kernel_rfl
theorem byt11 : Byt Try.prog 11 16 := by unfold Byt; kernel_rfl
theorem zer11 : Zer Try.prog 11 (.string ByteArray.empty) := by unfold Zer; kernel_rfl
theorem flat11 : flatB Try.prog 11 = true := by kernel_rfl
theorem siz12 : Siz Try.prog 12 1 := by unfold Siz; kernel_rfl
theorem byt12 : Byt Try.prog 12 8 := by unfold Byt; kernel_rfl
theorem zer12 : Zer Try.prog 12 (.int .u64 0) := by unfold Zer; kernel_rfl
theorem flat12 : flatB Try.prog 12 = true := by kernel_rfl
theorem siz13 : Siz Try.prog 13 2 := by unfold Siz; kernel_rfl
theorem byt13 : Byt Try.prog 13 24 := by unfold Byt; kernel_rfl
theorem zer13 : Zer Try.prog 13 (.agg #[(.string ByteArray.empty), (.int .u64 0)]) := by unfold Zer; kernel_rfl
theorem agg13 : aggB Try.prog 13 = true := by kernel_rfl
theorem siz14 : Siz Try.prog 14 2 := by unfold Siz; kernel_rfl
theorem byt14 : Byt Try.prog 14 24 := by unfold Byt; kernel_rfl
theorem zer14 : Zer Try.prog 14 (.agg #[(.string ByteArray.empty), (.int .u64 0)]) := by unfold Zer; kernel_rfl
theorem agg14 : aggB Try.prog 14 = true := by kernel_rfl
theorem siz15 : Siz Try.prog 15 1 := by unfold Siz; kernel_rfl
theorem byt15 : Byt Try.prog 15 8 := by unfold Byt; kernel_rfl
theorem zer15 : Zer Try.prog 15 (.pointer none) := by unfold Zer; kernel_rfl
theorem flat15 : flatB Try.prog 15 = true := by kernel_rfl
theorem siz16 : Siz Try.prog 16 1 := by unfold Siz; kernel_rfl
theorem byt16 : Byt Try.prog 16 8 := by unfold Byt; kernel_rfl
theorem zer16 : Zer Try.prog 16 (.pointer none) := by unfold Zer; kernel_rfl
theorem flat16 : flatB Try.prog 16 = true := by kernel_rfl
theorem siz17 : Siz Try.prog 17 1 := by unfold Siz; kernel_rfl
theorem byt17 : Byt Try.prog 17 8 := by unfold Byt; kernel_rfl
theorem zer17 : Zer Try.prog 17 (.pointer none) := by unfold Zer; kernel_rfl
theorem flat17 : flatB Try.prog 17 = true := by kernel_rfl
theorem siz18 : Siz Try.prog 18 1 := by unfold Siz; kernel_rfl
theorem byt18 : Byt Try.prog 18 8 := by unfold Byt; kernel_rfl
theorem zer18 : Zer Try.prog 18 (.agg #[(.pointer none)]) := by unfold Zer; kernel_rfl
theorem agg18 : aggB Try.prog 18 = true := by kernel_rfl
theorem siz19 : Siz Try.prog 19 1 := by unfold Siz; kernel_rfl
theorem byt19 : Byt Try.prog 19 8 := by unfold Byt; kernel_rfl
theorem zer19 : Zer Try.prog 19 (.agg #[(.pointer none)]) := by unfold Zer; kernel_rfl
theorem agg19 : aggB Try.prog 19 = true := by kernel_rfl
theorem siz20 : Siz Try.prog 20 1 := by unfold Siz; kernel_rfl
theorem byt20 : Byt Try.prog 20 16 := by unfold Byt; kernel_rfl
theorem zer20 : Zer Try.prog 20 .nilIface := by unfold Zer; kernel_rfl
theorem flat20 : flatB Try.prog 20 = true := by kernel_rfl
theorem siz21 : Siz Try.prog 21 1 := by unfold Siz; kernel_rfl
theorem byt21 : Byt Try.prog 21 4 := by unfold Byt; kernel_rfl
theorem zer21 : Zer Try.prog 21 (.int .i32 0) := by unfold Zer; kernel_rfl
theorem flat21 : flatB Try.prog 21 = true := by kernel_rfl
theorem siz22 : Siz Try.prog 22 1 := by unfold Siz; kernel_rfl
theorem byt22 : Byt Try.prog 22 24 := by unfold Byt; kernel_rfl
theorem zer22 : Zer Try.prog 22 (.slice none 0 0) := by unfold Zer; kernel_rfl
theorem flat22 : flatB Try.prog 22 = true := by kernel_rfl
theorem siz23 : Siz Try.prog 23 1 := by unfold Siz; kernel_rfl
theorem byt23 : Byt Try.prog 23 24 := by unfold Byt; kernel_rfl
theorem zer23 : Zer Try.prog 23 (.slice none 0 0) := by unfold Zer; kernel_rfl
theorem flat23 : flatB Try.prog 23 = true := by kernel_rfl
theorem siz24 : Siz Try.prog 24 3 := by unfold Siz; kernel_rfl
theorem byt24 : Byt Try.prog 24 56 := by unfold Byt; kernel_rfl
theorem zer24 : Zer Try.prog 24 (.agg #[(.int .i64 0), (.slice none 0 0), (.slice none 0 0)]) := by unfold Zer; kernel_rfl
theorem agg24 : aggB Try.prog 24 = true := by kernel_rfl
theorem siz25 : Siz Try.prog 25 3 := by unfold Siz; kernel_rfl
theorem byt25 : Byt Try.prog 25 56 := by unfold Byt; kernel_rfl
theorem zer25 : Zer Try.prog 25 (.agg #[(.int .i64 0), (.slice none 0 0), (.slice none 0 0)]) := by unfold Zer; kernel_rfl
theorem agg25 : aggB Try.prog 25 = true := by kernel_rfl
theorem siz26 : Siz Try.prog 26 1 := by unfold Siz; kernel_rfl
theorem byt26 : Byt Try.prog 26 8 := by unfold Byt; kernel_rfl
theorem zer26 : Zer Try.prog 26 (.int .i64 0) := by unfold Zer; kernel_rfl
theorem flat26 : flatB Try.prog 26 = true := by kernel_rfl
theorem siz28 : Siz Try.prog 28 1 := by unfold Siz; kernel_rfl
theorem byt28 : Byt Try.prog 28 8 := by unfold Byt; kernel_rfl
theorem zer28 : Zer Try.prog 28 .nilFunc := by unfold Zer; kernel_rfl
theorem flat28 : flatB Try.prog 28 = true := by kernel_rfl
theorem siz29 : Siz Try.prog 29 1 := by unfold Siz; kernel_rfl
theorem byt29 : Byt Try.prog 29 8 := by unfold Byt; kernel_rfl
theorem zer29 : Zer Try.prog 29 .nilFunc := by unfold Zer; kernel_rfl
theorem flat29 : flatB Try.prog 29 = true := by kernel_rfl
theorem siz30 : Siz Try.prog 30 1 := by unfold Siz; kernel_rfl
theorem byt30 : Byt Try.prog 30 8 := by unfold Byt; kernel_rfl
theorem zer30 : Zer Try.prog 30 .nilFunc := by unfold Zer; kernel_rfl
theorem flat30 : flatB Try.prog 30 = true := by kernel_rfl
theorem siz31 : Siz Try.prog 31 1 := by unfold Siz; kernel_rfl
theorem byt31 : Byt Try.prog 31 8 := by unfold Byt; kernel_rfl
theorem zer31 : Zer Try.prog 31 .nilFunc := by unfold Zer; kernel_rfl
theorem flat31 : flatB Try.prog 31 = true := by kernel_rfl
theorem siz32 : Siz Try.prog 32 1 := by unfold Siz; kernel_rfl
theorem byt32 : Byt Try.prog 32 8 := by unfold Byt; kernel_rfl
theorem zer32 : Zer Try.prog 32 .nilFunc := by unfold Zer; kernel_rfl
theorem flat32 : flatB Try.prog 32 = true := by kernel_rfl
theorem siz34 : Siz Try.prog 34 1 := by unfold Siz; kernel_rfl
theorem byt34 : Byt Try.prog 34 8 := by unfold Byt; kernel_rfl
theorem zer34 : Zer Try.prog 34 .nilFunc := by unfold Zer; kernel_rfl
theorem flat34 : flatB Try.prog 34 = true := by kernel_rfl
theorem siz35 : Siz Try.prog 35 1 := by unfold Siz; kernel_rfl
theorem byt35 : Byt Try.prog 35 8 := by unfold Byt; kernel_rfl
theorem zer35 : Zer Try.prog 35 .nilFunc := by unfold Zer; kernel_rfl
theorem flat35 : flatB Try.prog 35 = true := by kernel_rfl
theorem siz36 : Siz Try.prog 36 1 := by unfold Siz; kernel_rfl
theorem byt36 : Byt Try.prog 36 8 := by unfold Byt; kernel_rfl
theorem zer36 : Zer Try.prog 36 .nilFunc := by unfold Zer; kernel_rfl
theorem flat36 : flatB Try.prog 36 = true := by kernel_rfl
theorem siz37 : Siz Try.prog 37 1 := by unfold Siz; kernel_rfl
theorem byt37 : Byt Try.prog 37 8 := by unfold Byt; kernel_rfl
theorem zer37 : Zer Try.prog 37 .nilFunc := by unfold Zer; kernel_rfl
theorem flat37 : flatB Try.prog 37 = true := by kernel_rfl
theorem siz38 : Siz Try.prog 38 1 := by unfold Siz; kernel_rfl
theorem byt38 : Byt Try.prog 38 8 := by unfold Byt; kernel_rfl
theorem zer38 : Zer Try.prog 38 .nilFunc := by unfold Zer; kernel_rfl
theorem flat38 : flatB Try.prog 38 = true := by kernel_rfl
theorem siz39 : Siz Try.prog 39 1 := by unfold Siz; kernel_rfl
theorem byt39 : Byt Try.prog 39 8 := by unfold Byt; kernel_rfl
theorem zer39 : Zer Try.prog 39 .nilFunc := by unfold Zer; kernel_rfl
theorem flat39 : flatB Try.prog 39 = true := by kernel_rfl
theorem siz41 : Siz Try.prog 41 1 := by unfold Siz; kernel_rfl
theorem byt41 : Byt Try.prog 41 8 := by unfold Byt; kernel_rfl
theorem zer41 : Zer Try.prog 41 .nilFunc := by unfold Zer; kernel_rfl
theorem flat41 : flatB Try.prog 41 = true := by kernel_rfl
theorem siz42 : Siz Try.prog 42 1 := by unfold Siz; kernel_rfl
theorem byt42 : Byt Try.prog 42 8 := by unfold Byt; kernel_rfl
theorem zer42 : Zer Try.prog 42 .nilFunc := by unfold Zer; kernel_rfl
theorem flat42 : flatB Try.prog 42 = true := by kernel_rfl
theorem siz44 : Siz Try.prog 44 1 := by unfold Siz; kernel_rfl
theorem byt44 : Byt Try.prog 44 8 := by unfold Byt; kernel_rfl
theorem zer44 : Zer Try.prog 44 .nilFunc := by unfold Zer; kernel_rfl
theorem flat44 : flatB Try.prog 44 = true := by kernel_rfl
theorem siz45 : Siz Try.prog 45 1 := by unfold Siz; kernel_rfl
theorem byt45 : Byt Try.prog 45 8 := by unfold Byt; kernel_rfl
theorem zer45 : Zer Try.prog 45 .nilFunc := by unfold Zer; kernel_rfl
theorem flat45 : flatB Try.prog 45 = true := by kernel_rfl
theorem siz47 : Siz Try.prog 47 1 := by unfold Siz; kernel_rfl
theorem byt47 : Byt Try.prog 47 8 := by unfold Byt; kernel_rfl
theorem zer47 : Zer Try.prog 47 .nilFunc := by unfold Zer; kernel_rfl
theorem flat47 : flatB Try.prog 47 = true := by kernel_rfl
theorem siz49 : Siz Try.prog 49 1 := by unfold Siz; kernel_rfl
theorem byt49 : Byt Try.prog 49 8 := by unfold Byt; kernel_rfl
theorem zer49 : Zer Try.prog 49 .nilFunc := by unfold Zer; kernel_rfl
theorem flat49 : flatB Try.prog 49 = true := by kernel_rfl
theorem siz50 : Siz Try.prog 50 1 := by unfold Siz; kernel_rfl
theorem byt50 : Byt Try.prog 50 8 := by unfold Byt; kernel_rfl
theorem zer50 : Zer Try.prog 50 .nilFunc := by unfold Zer; kernel_rfl
theorem flat50 : flatB Try.prog 50 = true := by kernel_rfl
theorem siz51 : Siz Try.prog 51 1 := by unfold Siz; kernel_rfl
theorem byt51 : Byt Try.prog 51 8 := by unfold Byt; kernel_rfl
theorem zer51 : Zer Try.prog 51 .nilFunc := by unfold Zer; kernel_rfl
theorem flat51 : flatB Try.prog 51 = true := by kernel_rfl
theorem siz52 : Siz Try.prog 52 1 := by unfold Siz; kernel_rfl
theorem byt52 : Byt Try.prog 52 8 := by unfold Byt; kernel_rfl
theorem zer52 : Zer Try.prog 52 .nilFunc := by unfold Zer; kernel_rfl
theorem flat52 : flatB Try.prog 52 = true := by kernel_rfl
theorem siz53 : Siz Try.prog 53 1 := by unfold Siz; kernel_rfl
theorem byt53 : Byt Try.prog 53 8 := by unfold Byt; kernel_rfl
theorem zer53 : Zer Try.prog 53 .nilFunc := by unfold Zer; kernel_rfl
theorem flat53 : flatB Try.prog 53 = true := by kernel_rfl
theorem siz54 : Siz Try.prog 54 1 := by unfold Siz; kernel_rfl
theorem byt54 : Byt Try.prog 54 8 := by unfold Byt; kernel_rfl
theorem zer54 : Zer Try.prog 54 .nilFunc := by unfold Zer; kernel_rfl
theorem flat54 : flatB Try.prog 54 = true := by kernel_rfl
theorem siz55 : Siz Try.prog 55 1 := by unfold Siz; kernel_rfl
theorem byt55 : Byt Try.prog 55 8 := by unfold Byt; kernel_rfl
theorem zer55 : Zer Try.prog 55 .nilFunc := by unfold Zer; kernel_rfl
theorem flat55 : flatB Try.prog 55 = true := by kernel_rfl
theorem siz56 : Siz Try.prog 56 1 := by unfold Siz; kernel_rfl
theorem byt56 : Byt Try.prog 56 8 := by unfold Byt; kernel_rfl
theorem zer56 : Zer Try.prog 56 .nilFunc := by unfold Zer; kernel_rfl
theorem flat56 : flatB Try.prog 56 = true := by kernel_rfl
theorem siz57 : Siz Try.prog 57 6 := by unfold Siz; kernel_rfl
theorem byt57 : Byt Try.prog 57 112 := by unfold Byt; kernel_rfl
theorem zer57 : Zer Try.prog 57 (.agg #[(.int .i64 0), (.int .i64 0), (.slice none 0 0), (.slice none 0 0), (.slice none 0 0), (.slice none 0 0)]) := by unfold Zer; kernel_rfl
theorem agg57 : aggB Try.prog 57 = true := by kernel_rfl
theorem siz58 : Siz Try.prog 58 6 := by unfold Siz; kernel_rfl
theorem byt58 : Byt Try.prog 58 112 := by unfold Byt; kernel_rfl
theorem zer58 : Zer Try.prog 58 (.agg #[(.int .i64 0), (.int .i64 0), (.slice none 0 0), (.slice none 0 0), (.slice none 0 0), (.slice none 0 0)]) := by unfold Zer; kernel_rfl
theorem agg58 : aggB Try.prog 58 = true := by kernel_rfl
theorem siz60 : Siz Try.prog 60 1 := by unfold Siz; kernel_rfl
theorem byt60 : Byt Try.prog 60 8 := by unfold Byt; kernel_rfl
theorem zer60 : Zer Try.prog 60 .nilFunc := by unfold Zer; kernel_rfl
theorem flat60 : flatB Try.prog 60 = true := by kernel_rfl
theorem siz61 : Siz Try.prog 61 1 := by unfold Siz; kernel_rfl
theorem byt61 : Byt Try.prog 61 8 := by unfold Byt; kernel_rfl
theorem zer61 : Zer Try.prog 61 .nilFunc := by unfold Zer; kernel_rfl
theorem flat61 : flatB Try.prog 61 = true := by kernel_rfl
theorem siz62 : Siz Try.prog 62 1 := by unfold Siz; kernel_rfl
theorem byt62 : Byt Try.prog 62 24 := by unfold Byt; kernel_rfl
theorem zer62 : Zer Try.prog 62 (.slice none 0 0) := by unfold Zer; kernel_rfl
theorem flat62 : flatB Try.prog 62 = true := by kernel_rfl
theorem siz64 : Siz Try.prog 64 1 := by unfold Siz; kernel_rfl
theorem byt64 : Byt Try.prog 64 8 := by unfold Byt; kernel_rfl
theorem zer64 : Zer Try.prog 64 .nilFunc := by unfold Zer; kernel_rfl
theorem flat64 : flatB Try.prog 64 = true := by kernel_rfl
theorem siz65 : Siz Try.prog 65 1 := by unfold Siz; kernel_rfl
theorem byt65 : Byt Try.prog 65 8 := by unfold Byt; kernel_rfl
theorem zer65 : Zer Try.prog 65 .nilFunc := by unfold Zer; kernel_rfl
theorem flat65 : flatB Try.prog 65 = true := by kernel_rfl
theorem siz66 : Siz Try.prog 66 1 := by unfold Siz; kernel_rfl
theorem byt66 : Byt Try.prog 66 8 := by unfold Byt; kernel_rfl
theorem zer66 : Zer Try.prog 66 .nilFunc := by unfold Zer; kernel_rfl
theorem flat66 : flatB Try.prog 66 = true := by kernel_rfl
theorem siz67 : Siz Try.prog 67 1 := by unfold Siz; kernel_rfl
theorem byt67 : Byt Try.prog 67 8 := by unfold Byt; kernel_rfl
theorem zer67 : Zer Try.prog 67 .nilFunc := by unfold Zer; kernel_rfl
theorem flat67 : flatB Try.prog 67 = true := by kernel_rfl
theorem siz68 : Siz Try.prog 68 1 := by unfold Siz; kernel_rfl
theorem byt68 : Byt Try.prog 68 8 := by unfold Byt; kernel_rfl
theorem zer68 : Zer Try.prog 68 .nilFunc := by unfold Zer; kernel_rfl
theorem flat68 : flatB Try.prog 68 = true := by kernel_rfl
theorem siz69 : Siz Try.prog 69 1 := by unfold Siz; kernel_rfl
theorem byt69 : Byt Try.prog 69 8 := by unfold Byt; kernel_rfl
theorem zer69 : Zer Try.prog 69 .nilFunc := by unfold Zer; kernel_rfl
theorem flat69 : flatB Try.prog 69 = true := by kernel_rfl
theorem siz70 : Siz Try.prog 70 1 := by unfold Siz; kernel_rfl
theorem byt70 : Byt Try.prog 70 8 := by unfold Byt; kernel_rfl
theorem zer70 : Zer Try.prog 70 .nilFunc := by unfold Zer; kernel_rfl
theorem flat70 : flatB Try.prog 70 = true := by kernel_rfl
theorem siz71 : Siz Try.prog 71 1 := by unfold Siz; kernel_rfl
theorem byt71 : Byt Try.prog 71 8 := by unfold Byt; kernel_rfl
theorem zer71 : Zer Try.prog 71 .nilFunc := by unfold Zer; kernel_rfl
theorem flat71 : flatB Try.prog 71 = true := by kernel_rfl
theorem siz72 : Siz Try.prog 72 4 := by unfold Siz; kernel_rfl
theorem byt72 : Byt Try.prog 72 32 := by unfold Byt; kernel_rfl
theorem zer72 : Zer Try.prog 72 (.agg #[(.int .i64 0), (.int .i64 0), (.int .i64 0), (.int .i64 0)]) := by unfold Zer; kernel_rfl
theorem agg72 : aggB Try.prog 72 = true := by kernel_rfl
theorem siz73 : Siz Try.prog 73 4 := by unfold Siz; kernel_rfl
theorem byt73 : Byt Try.prog 73 32 := by unfold Byt; kernel_rfl
theorem zer73 : Zer Try.prog 73 (.agg #[(.int .i64 0), (.int .i64 0), (.int .i64 0), (.int .i64 0)]) := by unfold Zer; kernel_rfl
theorem agg73 : aggB Try.prog 73 = true := by kernel_rfl
theorem siz74 : Siz Try.prog 74 1 := by unfold Siz; kernel_rfl
theorem byt74 : Byt Try.prog 74 24 := by unfold Byt; kernel_rfl
theorem zer74 : Zer Try.prog 74 (.slice none 0 0) := by unfold Zer; kernel_rfl
theorem flat74 : flatB Try.prog 74 = true := by kernel_rfl
theorem siz75 : Siz Try.prog 75 2 := by unfold Siz; kernel_rfl
theorem byt75 : Byt Try.prog 75 16 := by unfold Byt; kernel_rfl
theorem zer75 : Zer Try.prog 75 (.agg #[(.int .i64 0), (.int .i64 0)]) := by unfold Zer; kernel_rfl
theorem agg75 : aggB Try.prog 75 = true := by kernel_rfl
theorem siz76 : Siz Try.prog 76 1 := by unfold Siz; kernel_rfl
theorem byt76 : Byt Try.prog 76 8 := by unfold Byt; kernel_rfl
theorem zer76 : Zer Try.prog 76 (.map none) := by unfold Zer; kernel_rfl
theorem flat76 : flatB Try.prog 76 = true := by kernel_rfl
theorem siz77 : Siz Try.prog 77 2 := by unfold Siz; kernel_rfl
theorem byt77 : Byt Try.prog 77 48 := by unfold Byt; kernel_rfl
theorem zer77 : Zer Try.prog 77 (.agg #[(.slice none 0 0), (.slice none 0 0)]) := by unfold Zer; kernel_rfl
theorem agg77 : aggB Try.prog 77 = true := by kernel_rfl
theorem siz78 : Siz Try.prog 78 2 := by unfold Siz; kernel_rfl
theorem byt78 : Byt Try.prog 78 48 := by unfold Byt; kernel_rfl
theorem zer78 : Zer Try.prog 78 (.agg #[(.slice none 0 0), (.slice none 0 0)]) := by unfold Zer; kernel_rfl
theorem agg78 : aggB Try.prog 78 = true := by kernel_rfl
theorem siz79 : Siz Try.prog 79 1 := by unfold Siz; kernel_rfl
theorem byt79 : Byt Try.prog 79 24 := by unfold Byt; kernel_rfl
theorem zer79 : Zer Try.prog 79 (.slice none 0 0) := by unfold Zer; kernel_rfl
theorem flat79 : flatB Try.prog 79 = true := by kernel_rfl
theorem siz80 : Siz Try.prog 80 1 := by unfold Siz; kernel_rfl
theorem byt80 : Byt Try.prog 80 8 := by unfold Byt; kernel_rfl
theorem zer80 : Zer Try.prog 80 .nilFunc := by unfold Zer; kernel_rfl
theorem flat80 : flatB Try.prog 80 = true := by kernel_rfl
theorem siz82 : Siz Try.prog 82 1 := by unfold Siz; kernel_rfl
theorem byt82 : Byt Try.prog 82 8 := by unfold Byt; kernel_rfl
theorem zer82 : Zer Try.prog 82 .nilFunc := by unfold Zer; kernel_rfl
theorem flat82 : flatB Try.prog 82 = true := by kernel_rfl
theorem siz83 : Siz Try.prog 83 1 := by unfold Siz; kernel_rfl
theorem byt83 : Byt Try.prog 83 8 := by unfold Byt; kernel_rfl
theorem zer83 : Zer Try.prog 83 .nilFunc := by unfold Zer; kernel_rfl
theorem flat83 : flatB Try.prog 83 = true := by kernel_rfl
theorem siz84 : Siz Try.prog 84 1 := by unfold Siz; kernel_rfl
theorem byt84 : Byt Try.prog 84 8 := by unfold Byt; kernel_rfl
theorem zer84 : Zer Try.prog 84 .nilFunc := by unfold Zer; kernel_rfl
theorem flat84 : flatB Try.prog 84 = true := by kernel_rfl
theorem siz85 : Siz Try.prog 85 1 := by unfold Siz; kernel_rfl
theorem byt85 : Byt Try.prog 85 24 := by unfold Byt; kernel_rfl
theorem zer85 : Zer Try.prog 85 (.slice none 0 0) := by unfold Zer; kernel_rfl
theorem flat85 : flatB Try.prog 85 = true := by kernel_rfl
theorem siz86 : Siz Try.prog 86 1 := by unfold Siz; kernel_rfl
theorem byt86 : Byt Try.prog 86 8 := by unfold Byt; kernel_rfl
theorem zer86 : Zer Try.prog 86 .nilFunc := by unfold Zer; kernel_rfl
theorem flat86 : flatB Try.prog 86 = true := by kernel_rfl
theorem siz87 : Siz Try.prog 87 1 := by unfold Siz; kernel_rfl
theorem byt87 : Byt Try.prog 87 8 := by unfold Byt; kernel_rfl
theorem zer87 : Zer Try.prog 87 .nilFunc := by unfold Zer; kernel_rfl
theorem flat87 : flatB Try.prog 87 = true := by kernel_rfl
theorem siz88 : Siz Try.prog 88 1 := by unfold Siz; kernel_rfl
theorem byt88 : Byt Try.prog 88 8 := by unfold Byt; kernel_rfl
theorem zer88 : Zer Try.prog 88 .nilFunc := by unfold Zer; kernel_rfl
theorem flat88 : flatB Try.prog 88 = true := by kernel_rfl
theorem siz89 : Siz Try.prog 89 2 := by unfold Siz; kernel_rfl
theorem byt89 : Byt Try.prog 89 16 := by unfold Byt; kernel_rfl
theorem zer89 : Zer Try.prog 89 (.agg #[(.int .i64 0), (.int .i64 0)]) := by unfold Zer; kernel_rfl
theorem agg89 : aggB Try.prog 89 = true := by kernel_rfl
theorem siz90 : Siz Try.prog 90 2 := by unfold Siz; kernel_rfl
theorem byt90 : Byt Try.prog 90 16 := by unfold Byt; kernel_rfl
theorem zer90 : Zer Try.prog 90 (.agg #[(.int .i64 0), (.int .i64 0)]) := by unfold Zer; kernel_rfl
theorem agg90 : aggB Try.prog 90 = true := by kernel_rfl
theorem siz91 : Siz Try.prog 91 1 := by unfold Siz; kernel_rfl
theorem byt91 : Byt Try.prog 91 8 := by unfold Byt; kernel_rfl
theorem zer91 : Zer Try.prog 91 (.map none) := by unfold Zer; kernel_rfl
theorem flat91 : flatB Try.prog 91 = true := by kernel_rfl
theorem siz93 : Siz Try.prog 93 1 := by unfold Siz; kernel_rfl
theorem byt93 : Byt Try.prog 93 8 := by unfold Byt; kernel_rfl
theorem zer93 : Zer Try.prog 93 .nilFunc := by unfold Zer; kernel_rfl
theorem flat93 : flatB Try.prog 93 = true := by kernel_rfl
theorem siz94 : Siz Try.prog 94 1 := by unfold Siz; kernel_rfl
theorem byt94 : Byt Try.prog 94 8 := by unfold Byt; kernel_rfl
theorem zer94 : Zer Try.prog 94 .nilFunc := by unfold Zer; kernel_rfl
theorem flat94 : flatB Try.prog 94 = true := by kernel_rfl
theorem siz95 : Siz Try.prog 95 1 := by unfold Siz; kernel_rfl
theorem byt95 : Byt Try.prog 95 8 := by unfold Byt; kernel_rfl
theorem zer95 : Zer Try.prog 95 .nilFunc := by unfold Zer; kernel_rfl
theorem flat95 : flatB Try.prog 95 = true := by kernel_rfl
theorem siz96 : Siz Try.prog 96 1 := by unfold Siz; kernel_rfl
theorem byt96 : Byt Try.prog 96 8 := by unfold Byt; kernel_rfl
theorem zer96 : Zer Try.prog 96 .nilFunc := by unfold Zer; kernel_rfl
theorem flat96 : flatB Try.prog 96 = true := by kernel_rfl
theorem siz97 : Siz Try.prog 97 1 := by unfold Siz; kernel_rfl
theorem byt97 : Byt Try.prog 97 8 := by unfold Byt; kernel_rfl
theorem zer97 : Zer Try.prog 97 (.pointer none) := by unfold Zer; kernel_rfl
theorem flat97 : flatB Try.prog 97 = true := by kernel_rfl
theorem siz98 : Siz Try.prog 98 1 := by unfold Siz; kernel_rfl
theorem byt98 : Byt Try.prog 98 24 := by unfold Byt; kernel_rfl
theorem zer98 : Zer Try.prog 98 (.agg #[(.slice none 0 0)]) := by unfold Zer; kernel_rfl
theorem agg98 : aggB Try.prog 98 = true := by kernel_rfl
theorem siz99 : Siz Try.prog 99 1 := by unfold Siz; kernel_rfl
theorem byt99 : Byt Try.prog 99 24 := by unfold Byt; kernel_rfl
theorem zer99 : Zer Try.prog 99 (.agg #[(.slice none 0 0)]) := by unfold Zer; kernel_rfl
theorem agg99 : aggB Try.prog 99 = true := by kernel_rfl
theorem siz100 : Siz Try.prog 100 1 := by unfold Siz; kernel_rfl
theorem byt100 : Byt Try.prog 100 8 := by unfold Byt; kernel_rfl
theorem zer100 : Zer Try.prog 100 .nilFunc := by unfold Zer; kernel_rfl
theorem flat100 : flatB Try.prog 100 = true := by kernel_rfl
theorem siz101 : Siz Try.prog 101 1 := by unfold Siz; kernel_rfl
theorem byt101 : Byt Try.prog 101 8 := by unfold Byt; kernel_rfl
theorem zer101 : Zer Try.prog 101 (.map none) := by unfold Zer; kernel_rfl
theorem flat101 : flatB Try.prog 101 = true := by kernel_rfl
theorem siz102 : Siz Try.prog 102 1 := by unfold Siz; kernel_rfl
theorem byt102 : Byt Try.prog 102 8 := by unfold Byt; kernel_rfl
theorem zer102 : Zer Try.prog 102 .nilFunc := by unfold Zer; kernel_rfl
theorem flat102 : flatB Try.prog 102 = true := by kernel_rfl
theorem siz104 : Siz Try.prog 104 1 := by unfold Siz; kernel_rfl
theorem byt104 : Byt Try.prog 104 8 := by unfold Byt; kernel_rfl
theorem zer104 : Zer Try.prog 104 .nilFunc := by unfold Zer; kernel_rfl
theorem flat104 : flatB Try.prog 104 = true := by kernel_rfl
theorem siz105 : Siz Try.prog 105 1 := by unfold Siz; kernel_rfl
theorem byt105 : Byt Try.prog 105 8 := by unfold Byt; kernel_rfl
theorem zer105 : Zer Try.prog 105 .nilFunc := by unfold Zer; kernel_rfl
theorem flat105 : flatB Try.prog 105 = true := by kernel_rfl
theorem siz106 : Siz Try.prog 106 1 := by unfold Siz; kernel_rfl
theorem byt106 : Byt Try.prog 106 8 := by unfold Byt; kernel_rfl
theorem zer106 : Zer Try.prog 106 (.int .u64 0) := by unfold Zer; kernel_rfl
theorem flat106 : flatB Try.prog 106 = true := by kernel_rfl
theorem siz107 : Siz Try.prog 107 1 := by unfold Siz; kernel_rfl
theorem byt107 : Byt Try.prog 107 8 := by unfold Byt; kernel_rfl
theorem zer107 : Zer Try.prog 107 .nilFunc := by unfold Zer; kernel_rfl
theorem flat107 : flatB Try.prog 107 = true := by kernel_rfl
theorem siz108 : Siz Try.prog 108 1 := by unfold Siz; kernel_rfl
theorem byt108 : Byt Try.prog 108 8 := by unfold Byt; kernel_rfl
theorem zer108 : Zer Try.prog 108 .nilFunc := by unfold Zer; kernel_rfl
theorem flat108 : flatB Try.prog 108 = true := by kernel_rfl
theorem siz109 : Siz Try.prog 109 1 := by unfold Siz; kernel_rfl
theorem byt109 : Byt Try.prog 109 8 := by unfold Byt; kernel_rfl
theorem zer109 : Zer Try.prog 109 .nilFunc := by unfold Zer; kernel_rfl
theorem flat109 : flatB Try.prog 109 = true := by kernel_rfl
theorem siz110 : Siz Try.prog 110 1 := by unfold Siz; kernel_rfl
theorem byt110 : Byt Try.prog 110 8 := by unfold Byt; kernel_rfl
theorem zer110 : Zer Try.prog 110 (.int .u64 0) := by unfold Zer; kernel_rfl
theorem flat110 : flatB Try.prog 110 = true := by kernel_rfl
theorem siz112 : Siz Try.prog 112 1 := by unfold Siz; kernel_rfl
theorem byt112 : Byt Try.prog 112 8 := by unfold Byt; kernel_rfl
theorem zer112 : Zer Try.prog 112 .nilFunc := by unfold Zer; kernel_rfl
theorem flat112 : flatB Try.prog 112 = true := by kernel_rfl
theorem siz113 : Siz Try.prog 113 1 := by unfold Siz; kernel_rfl
theorem byt113 : Byt Try.prog 113 8 := by unfold Byt; kernel_rfl
theorem zer113 : Zer Try.prog 113 (.pointer none) := by unfold Zer; kernel_rfl
theorem flat113 : flatB Try.prog 113 = true := by kernel_rfl
theorem siz114 : Siz Try.prog 114 2 := by unfold Siz; kernel_rfl
theorem byt114 : Byt Try.prog 114 16 := by unfold Byt; kernel_rfl
theorem zer114 : Zer Try.prog 114 (.agg #[(.pointer none), (.int .i64 0)]) := by unfold Zer; kernel_rfl
theorem agg114 : aggB Try.prog 114 = true := by kernel_rfl
theorem siz115 : Siz Try.prog 115 1 := by unfold Siz; kernel_rfl
theorem byt115 : Byt Try.prog 115 24 := by unfold Byt; kernel_rfl
theorem zer115 : Zer Try.prog 115 (.slice none 0 0) := by unfold Zer; kernel_rfl
theorem flat115 : flatB Try.prog 115 = true := by kernel_rfl
theorem siz116 : Siz Try.prog 116 1 := by unfold Siz; kernel_rfl
theorem byt116 : Byt Try.prog 116 8 := by unfold Byt; kernel_rfl
theorem zer116 : Zer Try.prog 116 .nilFunc := by unfold Zer; kernel_rfl
theorem flat116 : flatB Try.prog 116 = true := by kernel_rfl
theorem siz117 : Siz Try.prog 117 1 := by unfold Siz; kernel_rfl
theorem byt117 : Byt Try.prog 117 8 := by unfold Byt; kernel_rfl
theorem zer117 : Zer Try.prog 117 .nilFunc := by unfold Zer; kernel_rfl
theorem flat117 : flatB Try.prog 117 = true := by kernel_rfl
theorem siz118 : Siz Try.prog 118 1 := by unfold Siz; kernel_rfl
theorem byt118 : Byt Try.prog 118 24 := by unfold Byt; kernel_rfl
theorem zer118 : Zer Try.prog 118 (.slice none 0 0) := by unfold Zer; kernel_rfl
theorem flat118 : flatB Try.prog 118 = true := by kernel_rfl
theorem siz119 : Siz Try.prog 119 1 := by unfold Siz; kernel_rfl
theorem byt119 : Byt Try.prog 119 8 := by unfold Byt; kernel_rfl
theorem zer119 : Zer Try.prog 119 .nilFunc := by unfold Zer; kernel_rfl
theorem flat119 : flatB Try.prog 119 = true := by kernel_rfl
theorem siz120 : Siz Try.prog 120 1 := by unfold Siz; kernel_rfl
theorem byt120 : Byt Try.prog 120 8 := by unfold Byt; kernel_rfl
theorem zer120 : Zer Try.prog 120 .nilFunc := by unfold Zer; kernel_rfl
theorem flat120 : flatB Try.prog 120 = true := by kernel_rfl
theorem siz122 : Siz Try.prog 122 1 := by unfold Siz; kernel_rfl
theorem byt122 : Byt Try.prog 122 8 := by unfold Byt; kernel_rfl
theorem zer122 : Zer Try.prog 122 .nilFunc := by unfold Zer; kernel_rfl
theorem flat122 : flatB Try.prog 122 = true := by kernel_rfl
theorem siz123 : Siz Try.prog 123 1 := by unfold Siz; kernel_rfl
theorem byt123 : Byt Try.prog 123 24 := by unfold Byt; kernel_rfl
theorem zer123 : Zer Try.prog 123 (.slice none 0 0) := by unfold Zer; kernel_rfl
theorem flat123 : flatB Try.prog 123 = true := by kernel_rfl
theorem siz124 : Siz Try.prog 124 1 := by unfold Siz; kernel_rfl
theorem byt124 : Byt Try.prog 124 8 := by unfold Byt; kernel_rfl
theorem zer124 : Zer Try.prog 124 (.map none) := by unfold Zer; kernel_rfl
theorem flat124 : flatB Try.prog 124 = true := by kernel_rfl
theorem siz126 : Siz Try.prog 126 1 := by unfold Siz; kernel_rfl
theorem byt126 : Byt Try.prog 126 8 := by unfold Byt; kernel_rfl
theorem zer126 : Zer Try.prog 126 .nilFunc := by unfold Zer; kernel_rfl
theorem flat126 : flatB Try.prog 126 = true := by kernel_rfl
theorem siz127 : Siz Try.prog 127 1 := by unfold Siz; kernel_rfl
theorem byt127 : Byt Try.prog 127 8 := by unfold Byt; kernel_rfl
theorem zer127 : Zer Try.prog 127 .nilFunc := by unfold Zer; kernel_rfl
theorem flat127 : flatB Try.prog 127 = true := by kernel_rfl
theorem siz128 : Siz Try.prog 128 1 := by unfold Siz; kernel_rfl
theorem byt128 : Byt Try.prog 128 8 := by unfold Byt; kernel_rfl
theorem zer128 : Zer Try.prog 128 .nilFunc := by unfold Zer; kernel_rfl
theorem flat128 : flatB Try.prog 128 = true := by kernel_rfl
theorem siz129 : Siz Try.prog 129 1 := by unfold Siz; kernel_rfl
theorem byt129 : Byt Try.prog 129 8 := by unfold Byt; kernel_rfl
theorem zer129 : Zer Try.prog 129 .nilFunc := by unfold Zer; kernel_rfl
theorem flat129 : flatB Try.prog 129 = true := by kernel_rfl
theorem siz130 : Siz Try.prog 130 1 := by unfold Siz; kernel_rfl
theorem byt130 : Byt Try.prog 130 24 := by unfold Byt; kernel_rfl
theorem zer130 : Zer Try.prog 130 (.slice none 0 0) := by unfold Zer; kernel_rfl
theorem flat130 : flatB Try.prog 130 = true := by kernel_rfl
theorem siz131 : Siz Try.prog 131 1 := by unfold Siz; kernel_rfl
theorem byt131 : Byt Try.prog 131 8 := by unfold Byt; kernel_rfl
theorem zer131 : Zer Try.prog 131 .nilFunc := by unfold Zer; kernel_rfl
theorem flat131 : flatB Try.prog 131 = true := by kernel_rfl
theorem siz132 : Siz Try.prog 132 1 := by unfold Siz; kernel_rfl
theorem byt132 : Byt Try.prog 132 8 := by unfold Byt; kernel_rfl
theorem zer132 : Zer Try.prog 132 .nilFunc := by unfold Zer; kernel_rfl
theorem flat132 : flatB Try.prog 132 = true := by kernel_rfl
theorem siz133 : Siz Try.prog 133 1 := by unfold Siz; kernel_rfl
theorem byt133 : Byt Try.prog 133 8 := by unfold Byt; kernel_rfl
theorem zer133 : Zer Try.prog 133 .nilFunc := by unfold Zer; kernel_rfl
theorem flat133 : flatB Try.prog 133 = true := by kernel_rfl
theorem siz134 : Siz Try.prog 134 1 := by unfold Siz; kernel_rfl
theorem byt134 : Byt Try.prog 134 8 := by unfold Byt; kernel_rfl
theorem zer134 : Zer Try.prog 134 .nilFunc := by unfold Zer; kernel_rfl
theorem flat134 : flatB Try.prog 134 = true := by kernel_rfl
theorem siz135 : Siz Try.prog 135 1 := by unfold Siz; kernel_rfl
theorem byt135 : Byt Try.prog 135 8 := by unfold Byt; kernel_rfl
theorem zer135 : Zer Try.prog 135 .nilFunc := by unfold Zer; kernel_rfl
theorem flat135 : flatB Try.prog 135 = true := by kernel_rfl
theorem siz136 : Siz Try.prog 136 1 := by unfold Siz; kernel_rfl
theorem byt136 : Byt Try.prog 136 8 := by unfold Byt; kernel_rfl
theorem zer136 : Zer Try.prog 136 (.int .i64 0) := by unfold Zer; kernel_rfl
theorem flat136 : flatB Try.prog 136 = true := by kernel_rfl
theorem siz138 : Siz Try.prog 138 1 := by unfold Siz; kernel_rfl
theorem byt138 : Byt Try.prog 138 8 := by unfold Byt; kernel_rfl
theorem zer138 : Zer Try.prog 138 .nilFunc := by unfold Zer; kernel_rfl
theorem flat138 : flatB Try.prog 138 = true := by kernel_rfl
theorem siz139 : Siz Try.prog 139 1 := by unfold Siz; kernel_rfl
theorem byt139 : Byt Try.prog 139 8 := by unfold Byt; kernel_rfl
theorem zer139 : Zer Try.prog 139 .nilFunc := by unfold Zer; kernel_rfl
theorem flat139 : flatB Try.prog 139 = true := by kernel_rfl
theorem siz140 : Siz Try.prog 140 1 := by unfold Siz; kernel_rfl
theorem byt140 : Byt Try.prog 140 8 := by unfold Byt; kernel_rfl
theorem zer140 : Zer Try.prog 140 .nilFunc := by unfold Zer; kernel_rfl
theorem flat140 : flatB Try.prog 140 = true := by kernel_rfl
theorem siz141 : Siz Try.prog 141 1 := by unfold Siz; kernel_rfl
theorem byt141 : Byt Try.prog 141 8 := by unfold Byt; kernel_rfl
theorem zer141 : Zer Try.prog 141 .nilFunc := by unfold Zer; kernel_rfl
theorem flat141 : flatB Try.prog 141 = true := by kernel_rfl
theorem siz142 : Siz Try.prog 142 1 := by unfold Siz; kernel_rfl
theorem byt142 : Byt Try.prog 142 8 := by unfold Byt; kernel_rfl
theorem zer142 : Zer Try.prog 142 .nilFunc := by unfold Zer; kernel_rfl
theorem flat142 : flatB Try.prog 142 = true := by kernel_rfl
theorem siz143 : Siz Try.prog 143 1 := by unfold Siz; kernel_rfl
theorem byt143 : Byt Try.prog 143 8 := by unfold Byt; kernel_rfl
theorem zer143 : Zer Try.prog 143 .nilFunc := by unfold Zer; kernel_rfl
theorem flat143 : flatB Try.prog 143 = true := by kernel_rfl
theorem siz144 : Siz Try.prog 144 1 := by unfold Siz; kernel_rfl
theorem byt144 : Byt Try.prog 144 4 := by unfold Byt; kernel_rfl
theorem zer144 : Zer Try.prog 144 (.int .u32 0) := by unfold Zer; kernel_rfl
theorem flat144 : flatB Try.prog 144 = true := by kernel_rfl
theorem siz145 : Siz Try.prog 145 1 := by unfold Siz; kernel_rfl
theorem byt145 : Byt Try.prog 145 8 := by unfold Byt; kernel_rfl
theorem zer145 : Zer Try.prog 145 .nilFunc := by unfold Zer; kernel_rfl
theorem flat145 : flatB Try.prog 145 = true := by kernel_rfl
theorem siz146 : Siz Try.prog 146 1 := by unfold Siz; kernel_rfl
theorem byt146 : Byt Try.prog 146 8 := by unfold Byt; kernel_rfl
theorem zer146 : Zer Try.prog 146 .nilFunc := by unfold Zer; kernel_rfl
theorem flat146 : flatB Try.prog 146 = true := by kernel_rfl
theorem siz148 : Siz Try.prog 148 1 := by unfold Siz; kernel_rfl
theorem byt148 : Byt Try.prog 148 8 := by unfold Byt; kernel_rfl
theorem zer148 : Zer Try.prog 148 .nilFunc := by unfold Zer; kernel_rfl
theorem flat148 : flatB Try.prog 148 = true := by kernel_rfl
theorem siz150 : Siz Try.prog 150 1 := by unfold Siz; kernel_rfl
theorem byt150 : Byt Try.prog 150 8 := by unfold Byt; kernel_rfl
theorem zer150 : Zer Try.prog 150 .nilFunc := by unfold Zer; kernel_rfl
theorem flat150 : flatB Try.prog 150 = true := by kernel_rfl
theorem siz151 : Siz Try.prog 151 1 := by unfold Siz; kernel_rfl
theorem byt151 : Byt Try.prog 151 8 := by unfold Byt; kernel_rfl
theorem zer151 : Zer Try.prog 151 .nilFunc := by unfold Zer; kernel_rfl
theorem flat151 : flatB Try.prog 151 = true := by kernel_rfl
theorem siz152 : Siz Try.prog 152 1 := by unfold Siz; kernel_rfl
theorem byt152 : Byt Try.prog 152 8 := by unfold Byt; kernel_rfl
theorem zer152 : Zer Try.prog 152 .nilFunc := by unfold Zer; kernel_rfl
theorem flat152 : flatB Try.prog 152 = true := by kernel_rfl
theorem siz153 : Siz Try.prog 153 1 := by unfold Siz; kernel_rfl
theorem byt153 : Byt Try.prog 153 8 := by unfold Byt; kernel_rfl
theorem zer153 : Zer Try.prog 153 .nilFunc := by unfold Zer; kernel_rfl
theorem flat153 : flatB Try.prog 153 = true := by kernel_rfl
theorem siz154 : Siz Try.prog 154 1 := by unfold Siz; kernel_rfl
theorem byt154 : Byt Try.prog 154 8 := by unfold Byt; kernel_rfl
theorem zer154 : Zer Try.prog 154 (.int .u64 0) := by unfold Zer; kernel_rfl
theorem flat154 : flatB Try.prog 154 = true := by kernel_rfl
theorem siz155 : Siz Try.prog 155 1 := by unfold Siz; kernel_rfl
theorem byt155 : Byt Try.prog 155 8 := by unfold Byt; kernel_rfl
theorem zer155 : Zer Try.prog 155 .nilFunc := by unfold Zer; kernel_rfl
theorem flat155 : flatB Try.prog 155 = true := by kernel_rfl
theorem siz156 : Siz Try.prog 156 1 := by unfold Siz; kernel_rfl
theorem byt156 : Byt Try.prog 156 8 := by unfold Byt; kernel_rfl
theorem zer156 : Zer Try.prog 156 .nilFunc := by unfold Zer; kernel_rfl
theorem flat156 : flatB Try.prog 156 = true := by kernel_rfl
theorem siz157 : Siz Try.prog 157 1 := by unfold Siz; kernel_rfl
theorem byt157 : Byt Try.prog 157 8 := by unfold Byt; kernel_rfl
theorem zer157 : Zer Try.prog 157 .nilFunc := by unfold Zer; kernel_rfl
theorem flat157 : flatB Try.prog 157 = true := by kernel_rfl
theorem siz158 : Siz Try.prog 158 1 := by unfold Siz; kernel_rfl
theorem byt158 : Byt Try.prog 158 8 := by unfold Byt; kernel_rfl
theorem zer158 : Zer Try.prog 158 (.pointer none) := by unfold Zer; kernel_rfl
theorem flat158 : flatB Try.prog 158 = true := by kernel_rfl
theorem siz159 : Siz Try.prog 159 1 := by unfold Siz; kernel_rfl
theorem byt159 : Byt Try.prog 159 8 := by unfold Byt; kernel_rfl
theorem zer159 : Zer Try.prog 159 .nilFunc := by unfold Zer; kernel_rfl
theorem flat159 : flatB Try.prog 159 = true := by kernel_rfl
theorem siz160 : Siz Try.prog 160 1 := by unfold Siz; kernel_rfl
theorem byt160 : Byt Try.prog 160 8 := by unfold Byt; kernel_rfl
theorem zer160 : Zer Try.prog 160 .nilFunc := by unfold Zer; kernel_rfl
theorem flat160 : flatB Try.prog 160 = true := by kernel_rfl
theorem siz161 : Siz Try.prog 161 1 := by unfold Siz; kernel_rfl
theorem byt161 : Byt Try.prog 161 8 := by unfold Byt; kernel_rfl
theorem zer161 : Zer Try.prog 161 .nilFunc := by unfold Zer; kernel_rfl
theorem flat161 : flatB Try.prog 161 = true := by kernel_rfl
theorem siz162 : Siz Try.prog 162 1 := by unfold Siz; kernel_rfl
theorem byt162 : Byt Try.prog 162 8 := by unfold Byt; kernel_rfl
theorem zer162 : Zer Try.prog 162 (.map none) := by unfold Zer; kernel_rfl
theorem flat162 : flatB Try.prog 162 = true := by kernel_rfl
theorem siz164 : Siz Try.prog 164 1 := by unfold Siz; kernel_rfl
theorem byt164 : Byt Try.prog 164 8 := by unfold Byt; kernel_rfl
theorem zer164 : Zer Try.prog 164 (.pointer none) := by unfold Zer; kernel_rfl
theorem flat164 : flatB Try.prog 164 = true := by kernel_rfl
theorem siz165 : Siz Try.prog 165 1 := by unfold Siz; kernel_rfl
theorem byt165 : Byt Try.prog 165 8 := by unfold Byt; kernel_rfl
theorem zer165 : Zer Try.prog 165 .nilFunc := by unfold Zer; kernel_rfl
theorem flat165 : flatB Try.prog 165 = true := by kernel_rfl
theorem siz166 : Siz Try.prog 166 1 := by unfold Siz; kernel_rfl
theorem byt166 : Byt Try.prog 166 8 := by unfold Byt; kernel_rfl
theorem zer166 : Zer Try.prog 166 .nilFunc := by unfold Zer; kernel_rfl
theorem flat166 : flatB Try.prog 166 = true := by kernel_rfl
theorem siz167 : Siz Try.prog 167 4 := by unfold Siz; kernel_rfl
theorem byt167 : Byt Try.prog 167 40 := by unfold Byt; kernel_rfl
theorem zer167 : Zer Try.prog 167 (.agg #[(.pointer none), (.pointer none), (.pointer none), (.string ByteArray.empty)]) := by unfold Zer; kernel_rfl
theorem agg167 : aggB Try.prog 167 = true := by kernel_rfl
theorem siz168 : Siz Try.prog 168 4 := by unfold Siz; kernel_rfl
theorem byt168 : Byt Try.prog 168 40 := by unfold Byt; kernel_rfl
theorem zer168 : Zer Try.prog 168 (.agg #[(.pointer none), (.pointer none), (.pointer none), (.string ByteArray.empty)]) := by unfold Zer; kernel_rfl
theorem agg168 : aggB Try.prog 168 = true := by kernel_rfl
theorem siz172 : Siz Try.prog 172 1 := by unfold Siz; kernel_rfl
theorem byt172 : Byt Try.prog 172 8 := by unfold Byt; kernel_rfl
theorem zer172 : Zer Try.prog 172 .nilFunc := by unfold Zer; kernel_rfl
theorem flat172 : flatB Try.prog 172 = true := by kernel_rfl
theorem siz173 : Siz Try.prog 173 1 := by unfold Siz; kernel_rfl
theorem byt173 : Byt Try.prog 173 1 := by unfold Byt; kernel_rfl
theorem zer173 : Zer Try.prog 173 (.int .u8 0) := by unfold Zer; kernel_rfl
theorem flat173 : flatB Try.prog 173 = true := by kernel_rfl
theorem siz174 : Siz Try.prog 174 1 := by unfold Siz; kernel_rfl
theorem byt174 : Byt Try.prog 174 1 := by unfold Byt; kernel_rfl
theorem zer174 : Zer Try.prog 174 (.int .u8 0) := by unfold Zer; kernel_rfl
theorem flat174 : flatB Try.prog 174 = true := by kernel_rfl
theorem siz175 : Siz Try.prog 175 1 := by unfold Siz; kernel_rfl
theorem byt175 : Byt Try.prog 175 8 := by unfold Byt; kernel_rfl
theorem zer175 : Zer Try.prog 175 .nilFunc := by unfold Zer; kernel_rfl
theorem flat175 : flatB Try.prog 175 = true := by kernel_rfl
theorem siz176 : Siz Try.prog 176 1 := by unfold Siz; kernel_rfl
theorem byt176 : Byt Try.prog 176 8 := by unfold Byt; kernel_rfl
theorem zer176 : Zer Try.prog 176 (.pointer none) := by unfold Zer; kernel_rfl
theorem flat176 : flatB Try.prog 176 = true := by kernel_rfl
theorem siz177 : Siz Try.prog 177 1 := by unfold Siz; kernel_rfl
theorem byt177 : Byt Try.prog 177 4 := by unfold Byt; kernel_rfl
theorem zer177 : Zer Try.prog 177 (.int .i32 0) := by unfold Zer; kernel_rfl
theorem flat177 : flatB Try.prog 177 = true := by kernel_rfl
theorem siz178 : Siz Try.prog 178 1 := by unfold Siz; kernel_rfl
theorem byt178 : Byt Try.prog 178 4 := by unfold Byt; kernel_rfl
theorem zer178 : Zer Try.prog 178 (.int .i32 0) := by unfold Zer; kernel_rfl
theorem flat178 : flatB Try.prog 178 = true := by kernel_rfl
theorem siz179 : Siz Try.prog 179 11 := by unfold Siz; kernel_rfl
theorem byt179 : Byt Try.prog 179 48 := by unfold Byt; kernel_rfl
theorem zer179 : Zer Try.prog 179 (.agg #[(.int .u64 0), (.int .u64 0), (.int .u32 0), (.int .u8 0), (.int .u8 0), (.int .u8 0), (.int .u8 0), .nilFunc, (.pointer none), (.int .i32 0), (.int .i32 0)]) := by unfold Zer; kernel_rfl
theorem agg179 : aggB Try.prog 179 = true := by kernel_rfl
theorem siz180 : Siz Try.prog 180 11 := by unfold Siz; kernel_rfl
theorem byt180 : Byt Try.prog 180 48 := by unfold Byt; kernel_rfl
theorem zer180 : Zer Try.prog 180 (.agg #[(.int .u64 0), (.int .u64 0), (.int .u32 0), (.int .u8 0), (.int .u8 0), (.int .u8 0), (.int .u8 0), .nilFunc, (.pointer none), (.int .i32 0), (.int .i32 0)]) := by unfold Zer; kernel_rfl
theorem agg180 : aggB Try.prog 180 = true := by kernel_rfl
theorem nm2 : (Try.f2.name == "runtime.NumGoroutine") = false := by kernel_rfl
theorem bd2 : Try.f2.body.isNone = false := by kernel_rfl
theorem nm3 : (Try.f3.name == "runtime.NumGoroutine") = false := by kernel_rfl
theorem bd3 : Try.f3.body.isNone = false := by kernel_rfl
theorem nm4 : (Try.f4.name == "runtime.NumGoroutine") = false := by kernel_rfl
theorem bd4 : Try.f4.body.isNone = false := by kernel_rfl
theorem nm5 : (Try.f5.name == "runtime.NumGoroutine") = false := by kernel_rfl
theorem bd5 : Try.f5.body.isNone = false := by kernel_rfl
theorem nm6 : (Try.f6.name == "runtime.NumGoroutine") = false := by kernel_rfl
theorem bd6 : Try.f6.body.isNone = false := by kernel_rfl
theorem nm7 : (Try.f7.name == "runtime.NumGoroutine") = false := by kernel_rfl
theorem bd7 : Try.f7.body.isNone = false := by kernel_rfl
theorem nm8 : (Try.f8.name == "runtime.NumGoroutine") = false := by kernel_rfl
theorem bd8 : Try.f8.body.isNone = false := by kernel_rfl
theorem nm9 : (Try.f9.name == "runtime.NumGoroutine") = false := by kernel_rfl
theorem bd9 : Try.f9.body.isNone = false := by kernel_rfl
theorem nm10 : (Try.f10.name == "runtime.NumGoroutine") = false := by kernel_rfl
theorem bd10 : Try.f10.body.isNone = false := by kernel_rfl
theorem nm11 : (Try.f11.name == "runtime.NumGoroutine") = false := by kernel_rfl
theorem bd11 : Try.f11.body.isNone = false := by kernel_rfl
theorem nm12 : (Try.f12.name == "runtime.NumGoroutine") = false := by kernel_rfl
theorem bd12 : Try.f12.body.isNone = false := by kernel_rfl
theorem nm13 : (Try.f13.name == "runtime.NumGoroutine") = false := by kernel_rfl
theorem bd13 : Try.f13.body.isNone = false := by kernel_rfl
theorem nm14 : (Try.f14.name == "runtime.NumGoroutine") = false := by kernel_rfl
theorem bd14 : Try.f14.body.isNone = false := by kernel_rfl
theorem nm15 : (Try.f15.name == "runtime.NumGoroutine") = false := by kernel_rfl
theorem bd15 : Try.f15.body.isNone = false := by kernel_rfl
theorem nm16 : (Try.f16.name == "runtime.NumGoroutine") = false := by kernel_rfl
theorem bd16 : Try.f16.body.isNone = false := by kernel_rfl
theorem nm17 : (Try.f17.name == "runtime.NumGoroutine") = false := by kernel_rfl
theorem bd17 : Try.f17.body.isNone = false := by kernel_rfl
theorem nm18 : (Try.f18.name == "runtime.NumGoroutine") = false := by kernel_rfl
theorem bd18 : Try.f18.body.isNone = false := by kernel_rfl
theorem nm19 : (Try.f19.name == "runtime.NumGoroutine") = false := by kernel_rfl
theorem bd19 : Try.f19.body.isNone = false := by kernel_rfl
theorem nm20 : (Try.f20.name == "runtime.NumGoroutine") = false := by kernel_rfl
theorem bd20 : Try.f20.body.isNone = false := by kernel_rfl
theorem nm21 : (Try.f21.name == "runtime.NumGoroutine") = false := by kernel_rfl
theorem bd21 : Try.f21.body.isNone = false := by kernel_rfl
theorem nm22 : (Try.f22.name == "runtime.NumGoroutine") = false := by kernel_rfl
theorem bd22 : Try.f22.body.isNone = false := by kernel_rfl
theorem nm23 : (Try.f23.name == "runtime.NumGoroutine") = false := by kernel_rfl
theorem bd23 : Try.f23.body.isNone = false := by kernel_rfl
theorem nm24 : (Try.f24.name == "runtime.NumGoroutine") = false := by kernel_rfl
theorem bd24 : Try.f24.body.isNone = false := by kernel_rfl
theorem nm25 : (Try.f25.name == "runtime.NumGoroutine") = false := by kernel_rfl
theorem bd25 : Try.f25.body.isNone = false := by kernel_rfl
theorem nm26 : (Try.f26.name == "runtime.NumGoroutine") = false := by kernel_rfl
theorem bd26 : Try.f26.body.isNone = false := by kernel_rfl
theorem nm27 : (Try.f27.name == "runtime.NumGoroutine") = false := by kernel_rfl
theorem bd27 : Try.f27.body.isNone = false := by kernel_rfl
theorem nm28 : (Try.f28.name == "runtime.NumGoroutine") = false := by kernel_rfl
theorem bd28 : Try.f28.body.isNone = false := by kernel_rfl
theorem nm29 : (Try.f29.name == "runtime.NumGoroutine") = false := by kernel_rfl
theorem bd29 : Try.f29.body.isNone = false := by kernel_rfl
theorem nm30 : (Try.f30.name == "runtime.NumGoroutine") = false := by kernel_rfl
theorem bd30 : Try.f30.body.isNone = false := by kernel_rfl
theorem nm31 : (Try.f31.name == "runtime.NumGoroutine") = false := by kernel_rfl
theorem bd31 : Try.f31.body.isNone = false := by kernel_rfl
theorem nm32 : (Try.f32.name == "runtime.NumGoroutine") = false := by kernel_rfl
theorem bd32 : Try.f32.body.isNone = false := by kernel_rfl
theorem nm33 : (Try.f33.name == "runtime.NumGoroutine") = false := by kernel_rfl
theorem bd33 : Try.f33.body.isNone = false := by kernel_rfl
theorem nm34 : (Try.f34.name == "runtime.NumGoroutine") = false := by kernel_rfl
theorem bd34 : Try.f34.body.isNone = false := by kernel_rfl
theorem nm35 : (Try.f35.name == "runtime.NumGoroutine") = false := by kernel_rfl
theorem bd35 : Try.f35.body.isNone = false := by kernel_rfl
theorem nm36 : (Try.f36.name == "runtime.NumGoroutine") = false := by kernel_rfl
theorem bd36 : Try.f36.body.isNone = false := by kernel_rfl
theorem nm37 : (Try.f37.name == "runtime.NumGoroutine") = false := by kernel_rfl
theorem bd37 : Try.f37.body.isNone = false := by kernel_rfl
theorem nm38 : (Try.f38.name == "runtime.NumGoroutine") = false := by kernel_rfl
theorem bd38 : Try.f38.body.isNone = false := by kernel_rfl
theorem nm39 : (Try.f39.name == "runtime.NumGoroutine") = false := by kernel_rfl
theorem bd39 : Try.f39.body.isNone = false := by kernel_rfl
theorem nm40 : (Try.f40.name == "runtime.NumGoroutine") = false := by kernel_rfl
theorem bd40 : Try.f40.body.isNone = false := by kernel_rfl
theorem nm41 : (Try.f41.name == "runtime.NumGoroutine") = false := by kernel_rfl
theorem bd41 : Try.f41.body.isNone = false := by kernel_rfl
theorem nm42 : (Try.f42.name == "runtime.NumGoroutine") = false := by kernel_rfl
theorem bd42 : Try.f42.body.isNone = false := by kernel_rfl
theorem nm43 : (Try.f43.name == "runtime.NumGoroutine") = false := by kernel_rfl
theorem bd43 : Try.f43.body.isNone = false := by kernel_rfl
theorem nm44 : (Try.f44.name == "runtime.NumGoroutine") = false := by kernel_rfl
theorem bd44 : Try.f44.body.isNone = false := by kernel_rfl
theorem nm45 : (Try.f45.name == "runtime.NumGoroutine") = false := by kernel_rfl
theorem bd45 : Try.f45.body.isNone = false := by kernel_rfl
theorem nm46 : (Try.f46.name == "runtime.NumGoroutine") = false := by kernel_rfl
theorem bd46 : Try.f46.body.isNone = false := by kernel_rfl
theorem nm47 : (Try.f47.name == "runtime.NumGoroutine") = false := by kernel_rfl
theorem bd47 : Try.f47.body.isNone = false := by kernel_rfl
theorem nm48 : (Try.f48.name == "runtime.NumGoroutine") = false := by kernel_rfl
theorem bd48 : Try.f48.body.isNone = false := by kernel_rfl
theorem nm49 : (Try.f49.name == "runtime.NumGoroutine") = false := by kernel_rfl
theorem bd49 : Try.f49.body.isNone = false := by kernel_rfl
theorem nm50 : (Try.f50.name == "runtime.NumGoroutine") = false := by kernel_rfl
theorem bd50 : Try.f50.body.isNone = false := by kernel_rfl
theorem nm51 : (Try.f51.name == "runtime.NumGoroutine") = false := by kernel_rfl
theorem bd51 : Try.f51.body.isNone = false := by kernel_rfl
theorem nm52 : (Try.f52.name == "runtime.NumGoroutine") = false := by kernel_rfl
theorem bd52 : Try.f52.body.isNone = false := by kernel_rfl
theorem nm53 : (Try.f53.name == "runtime.NumGoroutine") = false := by kernel_rfl
theorem bd53 : Try.f53.body.isNone = false := by kernel_rfl
theorem nm54 : (Try.f54.name == "runtime.NumGoroutine") = false := by kernel_rfl
theorem bd54 : Try.f54.body.isNone = false := by kernel_rfl
theorem nm55 : (Try.f55.name == "runtime.NumGoroutine") = false := by kernel_rfl
theorem bd55 : Try.f55.body.isNone = false := by kernel_rfl
theorem nm56 : (Try.f56.name == "runtime.NumGoroutine") = false := by kernel_rfl
theorem bd56 : Try.f56.body.isNone = false := by kernel_rfl
theorem nm57 : (Try.f57.name == "runtime.NumGoroutine") = false := by kernel_rfl
theorem bd57 : Try.f57.body.isNone = false := by kernel_rfl
theorem nm58 : (Try.f58.name == "runtime.NumGoroutine") = false := by kernel_rfl
theorem bd58 : Try.f58.body.isNone = false := by kernel_rfl
theorem nm59 : (Try.f59.name == "runtime.NumGoroutine") = false := by kernel_rfl
theorem bd59 : Try.f59.body.isNone = false := by kernel_rfl
theorem nm60 : (Try.f60.name == "runtime.NumGoroutine") = false := by kernel_rfl
theorem bd60 : Try.f60.body.isNone = false := by kernel_rfl
theorem nm61 : (Try.f61.name == "runtime.NumGoroutine") = false := by kernel_rfl
theorem bd61 : Try.f61.body.isNone = false := by kernel_rfl
theorem nm62 : (Try.f62.name == "runtime.NumGoroutine") = false := by kernel_rfl
theorem bd62 : Try.f62.body.isNone = false := by kernel_rfl
theorem nm63 : (Try.f63.name == "runtime.NumGoroutine") = false := by kernel_rfl
theorem bd63 : Try.f63.body.isNone = false := by kernel_rfl
theorem nm64 : (Try.f64.name == "runtime.NumGoroutine") = false := by kernel_rfl
theorem bd64 : Try.f64.body.isNone = false := by kernel_rfl
theorem nm65 : (Try.f65.name == "runtime.NumGoroutine") = false := by kernel_rfl
theorem bd65 : Try.f65.body.isNone = false := by kernel_rfl
theorem nm66 : (Try.f66.name == "runtime.NumGoroutine") = false := by kernel_rfl
theorem bd66 : Try.f66.body.isNone = false := by kernel_rfl
theorem nm67 : (Try.f67.name == "runtime.NumGoroutine") = false := by kernel_rfl
theorem bd67 : Try.f67.body.isNone = false := by kernel_rfl
theorem nm68 : (Try.f68.name == "runtime.NumGoroutine") = false := by kernel_rfl
theorem bd68 : Try.f68.body.isNone = false := by kernel_rfl
theorem nm69 : (Try.f69.name == "runtime.NumGoroutine") = false := by kernel_rfl
theorem bd69 : Try.f69.body.isNone = false := by kernel_rfl
theorem nm70 : (Try.f70.name == "runtime.NumGoroutine") = false := by kernel_rfl
theorem bd70 : Try.f70.body.isNone = false := by kernel_rfl
theorem nm71 : (Try.f71.name == "runtime.NumGoroutine") = false := by kernel_rfl
theorem bd71 : Try.f71.body.isNone = false := by kernel_rfl
theorem nm72 : (Try.f72.name == "runtime.NumGoroutine") = false := by kernel_rfl
theorem bd72 : Try.f72.body.isNone = false := by kernel_rfl
theorem nm73 : (Try.f73.name == "runtime.NumGoroutine") = false := by kernel_rfl
theorem bd73 : Try.f73.body.isNone = false := by kernel_rfl
theorem nm74 : (Try.f74.name == "runtime.NumGoroutine") = false := by kernel_rfl
theorem bd74 : Try.f74.body.isNone = false := by kernel_rfl
theorem nm75 : (Try.f75.name == "runtime.NumGoroutine") = false := by kernel_rfl
theorem bd75 : Try.f75.body.isNone = false := by kernel_rfl
theorem nm76 : (Try.f76.name == "runtime.NumGoroutine") = false := by kernel_rfl
theorem bd76 : Try.f76.body.isNone = false := by kernel_rfl
theorem nm77 : (Try.f77.name == "runtime.NumGoroutine") = false := by kernel_rfl
theorem bd77 : Try.f77.body.isNone = false := by kernel_rfl
theorem nm78 : (Try.f78.name == "runtime.NumGoroutine") = false := by kernel_rfl
theorem bd78 : Try.f78.body.isNone = false := by kernel_rfl
theorem nm79 : (Try.f79.name == "runtime.NumGoroutine") = false := by kernel_rfl
theorem bd79 : Try.f79.body.isNone = false := by kernel_rfl
theorem nm80 : (Try.f80.name == "runtime.NumGoroutine") = false := by kernel_rfl
theorem bd80 : Try.f80.body.isNone = false := by kernel_rfl
theorem nm81 : (Try.f81.name == "runtime.NumGoroutine") = false := by kernel_rfl
theorem bd81 : Try.f81.body.isNone = false := by kernel_rfl
theorem nm82 : (Try.f82.name == "runtime.NumGoroutine") = false := by kernel_rfl
theorem bd82 : Try.f82.body.isNone = false := by kernel_rfl
theorem nm83 : (Try.f83.name == "runtime.NumGoroutine") = false := by kernel_rfl
theorem bd83 : Try.f83.body.isNone = false := by kernel_rfl
theorem nm84 : (Try.f84.name == "runtime.NumGoroutine") = false := by kernel_rfl
theorem bd84 : Try.f84.body.isNone = false := by kernel_rfl
theorem nm85 : (Try.f85.name == "runtime.NumGoroutine") = false := by kernel_rfl
theorem bd85 : Try.f85.body.isNone = false := by kernel_rfl
theorem nm86 : (Try.f86.name == "runtime.NumGoroutine") = false := by kernel_rfl
theorem bd86 : Try.f86.body.isNone = false := by kernel_rfl
theorem nm87 : (Try.f87.name == "runtime.NumGoroutine") = false := by kernel_rfl
theorem bd87 : Try.f87.body.isNone = false := by kernel_rfl
theorem nm88 : (Try.f88.name == "runtime.NumGoroutine") = false := by kernel_rfl
theorem bd88 : Try.f88.body.isNone = false := by kernel_rfl
theorem nm89 : (Try.f89.name == "runtime.NumGoroutine") = false := by kernel_rfl
theorem bd89 : Try.f89.body.isNone = false := by kernel_rfl
theorem nm90 : (Try.f90.name == "runtime.NumGoroutine") = false := by kernel_rfl
theorem bd90 : Try.f90.body.isNone = false := by kernel_rfl
theorem nm91 : (Try.f91.name == "runtime.NumGoroutine") = false := by kernel_rfl
theorem bd91 : Try.f91.body.isNone = false := by kernel_rfl
theorem nm92 : (Try.f92.name == "runtime.NumGoroutine") = false := by kernel_rfl
theorem bd92 : Try.f92.body.isNone = false := by kernel_rfl
theorem nm93 : (Try.f93.name == "runtime.NumGoroutine") = false := by kernel_rfl
theorem bd93 : Try.f93.body.isNone = false := by kernel_rfl
theorem nm94 : (Try.f94.name == "runtime.NumGoroutine") = false := by kernel_rfl
theorem bd94 : Try.f94.body.isNone = false := by kernel_rfl
theorem nm95 : (Try.f95.name == "runtime.NumGoroutine") = false := by kernel_rfl
theorem bd95 : Try.f95.body.isNone = false := by kernel_rfl
theorem nm96 : (Try.f96.name == "runtime.NumGoroutine") = false := by kernel_rfl
theorem bd96 : Try.f96.body.isNone = false := by kernel_rfl
theorem nm97 : (Try.f97.name == "runtime.NumGoroutine") = false := by kernel_rfl
theorem bd97 : Try.f97.body.isNone = false := by kernel_rfl
theorem nm98 : (Try.f98.name == "runtime.NumGoroutine") = false := by kernel_rfl
theorem bd98 : Try.f98.body.isNone = false := by kernel_rfl
theorem nm99 : (Try.f99.name == "runtime.NumGoroutine") = false := by kernel_rfl
theorem bd99 : Try.f99.body.isNone = false := by kernel_rfl
theorem nm100 : (Try.f100.name == "runtime.NumGoroutine") = false := by kernel_rfl
theorem bd100 : Try.f100.body.isNone = false := by kernel_rfl
theorem nm101 : (Try.f101.name == "runtime.NumGoroutine") = false := by kernel_rfl
theorem bd101 : Try.f101.body.isNone = false := by kernel_rfl
theorem nm102 : (Try.f102.name == "runtime.NumGoroutine") = false := by kernel_rfl
theorem bd102 : Try.f102.body.isNone = false := by kernel_rfl
theorem nm103 : (Try.f103.name == "runtime.NumGoroutine") = false := by kernel_rfl
theorem bd103 : Try.f103.body.isNone = false := by kernel_rfl
theorem nm104 : (Try.f104.name == "runtime.NumGoroutine") = false := by kernel_rfl
theorem bd104 : Try.f104.body.isNone = false := by kernel_rfl
theorem nm105 : (Try.f105.name == "runtime.NumGoroutine") = false := by kernel_rfl
theorem bd105 : Try.f105.body.isNone = false := by kernel_rfl
theorem nm106 : (Try.f106.name == "runtime.NumGoroutine") = false := by kernel_rfl
theorem bd106 : Try.f106.body.isNone = false := by kernel_rfl
theorem nm107 : (Try.f107.name == "runtime.NumGoroutine") = false := by kernel_rfl
theorem bd107 : Try.f107.body.isNone = false := by kernel_rfl
theorem nm108 : (Try.f108.name == "runtime.NumGoroutine") = false := by kernel_rfl
theorem bd108 : Try.f108.body.isNone = false := by kernel_rfl
theorem nm109 : (Try.f109.name == "runtime.NumGoroutine") = false := by kernel_rfl
theorem bd109 : Try.f109.body.isNone = false := by kernel_rfl
theorem nm110 : (Try.f110.name == "runtime.NumGoroutine") = false := by kernel_rfl
theorem bd110 : Try.f110.body.isNone = false := by kernel_rfl
theorem nm111 : (Try.f111.name == "runtime.NumGoroutine") = false := by kernel_rfl
theorem bd111 : Try.f111.body.isNone = false := by kernel_rfl
theorem nm112 : (Try.f112.name == "runtime.NumGoroutine") = false := by kernel_rfl
theorem bd112 : Try.f112.body.isNone = false := by kernel_rfl
theorem nm113 : (Try.f113.name == "runtime.NumGoroutine") = false := by kernel_rfl
theorem bd113 : Try.f113.body.isNone = false := by kernel_rfl
theorem nm114 : (Try.f114.name == "runtime.NumGoroutine") = false := by kernel_rfl
theorem bd114 : Try.f114.body.isNone = false := by kernel_rfl
theorem nm115 : (Try.f115.name == "runtime.NumGoroutine") = false := by kernel_rfl
theorem bd115 : Try.f115.body.isNone = false := by kernel_rfl
theorem nm116 : (Try.f116.name == "runtime.NumGoroutine") = false := by kernel_rfl
theorem bd116 : Try.f116.body.isNone = false := by kernel_rfl
theorem nm117 : (Try.f117.name == "runtime.NumGoroutine") = false := by kernel_rfl
theorem bd117 : Try.f117.body.isNone = false := by kernel_rfl
theorem nm118 : (Try.f118.name == "runtime.NumGoroutine") = false := by kernel_rfl
theorem bd118 : Try.f118.body.isNone = false := by kernel_rfl
theorem nm119 : (Try.f119.name == "runtime.NumGoroutine") = false := by kernel_rfl
theorem bd119 : Try.f119.body.isNone = false := by kernel_rfl
theorem nm120 : (Try.f120.name == "runtime.NumGoroutine") = false := by kernel_rfl
theorem bd120 : Try.f120.body.isNone = false := by kernel_rfl
theorem nm121 : (Try.f121.name == "runtime.NumGoroutine") = false := by kernel_rfl
theorem bd121 : Try.f121.body.isNone = false := by kernel_rfl
theorem nm122 : (Try.f122.name == "runtime.NumGoroutine") = false := by kernel_rfl
theorem bd122 : Try.f122.body.isNone = false := by kernel_rfl
theorem nm123 : (Try.f123.name == "runtime.NumGoroutine") = false := by kernel_rfl
theorem bd123 : Try.f123.body.isNone = false := by kernel_rfl
theorem nm124 : (Try.f124.name == "runtime.NumGoroutine") = false := by kernel_rfl
theorem bd124 : Try.f124.body.isNone = false := by kernel_rfl
theorem nm125 : (Try.f125.name == "runtime.NumGoroutine") = false := by kernel_rfl
theorem bd125 : Try.f125.body.isNone = false := by kernel_rfl
theorem nm126 : (Try.f126.name == "runtime.NumGoroutine") = false := by kernel_rfl
theorem bd126 : Try.f126.body.isNone = false := by kernel_rfl
theorem nm127 : (Try.f127.name == "runtime.NumGoroutine") = false := by kernel_rfl
theorem bd127 : Try.f127.body.isNone = false := by kernel_rfl
theorem nm128 : (Try.f128.name == "runtime.NumGoroutine") = false := by kernel_rfl
theorem bd128 : Try.f128.body.isNone = false := by kernel_rfl
theorem mixed : Try.prog.follows .mixedOrders = true := by kernel_rfl
end Go.Proofs