/- The one pure statement of LoadAdmitKeepsTheLimit: its Lean function answers true. Condition: none beside the ones in the statement. -/
import Derived.Test.YtaoekkikpceccaaLAdmitC
namespace Go.Proofs.Ytaoekkikpceccaa.Pure
open Go.RowKit Go.Proofs.Ytaoekkikpceccaa.QLoadAdmitKeepsTheLimit Go.Proofs.YtaoekkikpceccaaW.PrintWords Go.Proofs.YtaoekkikpceccaaW.PrintLast
theorem LoadAdmitKeepsTheLimit : dynamometerlaw7_LoadAdmitKeepsTheLimit.Pure := fun l a b _ _ _ _ _ => (law_ev l a b).rounds
end Go.Proofs.Ytaoekkikpceccaa.Pure
