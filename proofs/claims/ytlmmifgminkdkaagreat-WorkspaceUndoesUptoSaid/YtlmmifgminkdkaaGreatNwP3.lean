import Derived.Test.YtlmmifgminkdkaaGreatNwP2
set_option linter.all false
set_option maxRecDepth 100000
section
namespace Nw
structure Aside (a b:List P2):Prop where
 ap:Apart a b
 l: ∃p∈b,wn a p=0
 r: ∃p∈a,wn b p=0
end Nw
end
