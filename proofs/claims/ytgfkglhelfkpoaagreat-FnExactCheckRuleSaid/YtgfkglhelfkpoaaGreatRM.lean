/- Texts put together: WSv4, WSv5, WSv6, WSv7. -/
import Derived.Test.YtgfkglhelfkpoaaGreatRK
set_option maxRecDepth 100000
set_option maxHeartbeats 1000000
namespace Go.Proofs.YtgfkglhelfkpoaaGreat
section
open Go.RowKit Plain
end
section
open Go.RowKit Plain
theorem fnAt {w:World} {B:Nat} {P:List Fn} {bp op m:Nat} {g:Fn} (h:PrAt w B P bp op) (hf:P[m]? = some g):∃ bP oP pcap KF cF,bp<B∧w.cell? ⟨bp,op,none⟩=some (.slice (some ⟨bP,oP,none⟩) P.length pcap)∧bP<B∧w.cell? ⟨bP,oP+m*3+2,none⟩=some (.slice KF g.outs.len cF)∧g.outs.len≤cF∧cF≤maxLen∧ExSl w B g.outs KF∧pcap≤9223372036854775807:=by
 obtain ⟨h0,A,cap,h1,h2,h3,h4⟩:=h
 obtain ⟨bP,oP,rfl,hb,_,_,_,KF,cF,g2,hc,hm,hk⟩:=h4.get hf
 exact ⟨bP,oP,cap,KF,cF,h0,h1,hb,g2,hc,hm,hk,by unfold maxLen at h3;omega⟩
end
section
open Go.RowKit Plain
end
section
open Go.RowKit Plain
end
end Go.Proofs.YtgfkglhelfkpoaaGreat
