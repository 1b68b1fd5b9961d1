/- How many numbers a law's arguments hold, by their sizes. Conditions: none. -/
import Derived.Test.YtjblpcgkffhgfaaGreatListP
import Derived.Test.YtjblpcgkffhgfaaGreatME
import Derived.Test.YtjblpcgkffhgfaaGreatGCT
set_option linter.all false
set_option linter.unusedSimpArgs false
set_option linter.unusedVariables false
namespace Go.Proofs.YtjblpcgkffhgfaaGreat

open Go Go.RowKit Am
theorem nil_av {M:Am.Mem} {c:Cn} {u:Value} (h0:c.len=0) (hok:c.ok) (h:(AV.val (.slice none 0 0)).rel noφ M u):(AV.sl c).rel noφ M u:=by
  obtain rfl:u = .slice none 0 0:=h
  exact nil_rel h0 hok
end Go.Proofs.YtjblpcgkffhgfaaGreat
