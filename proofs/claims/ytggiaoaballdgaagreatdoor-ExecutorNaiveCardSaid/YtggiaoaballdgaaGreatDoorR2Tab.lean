/- A part of the proof: see the last text. -/
import Derived.Test.YtggiaoaballdgaaGreatDoorProg
import Derived.KernelRfl
import Derived.Attr
import Derived.Test.YtggiaoaballdgaaGreatDoorJ3
import Derived.Test.YtggiaoaballdgaaGreatDoorEngIns2
set_option linter.unusedSimpArgs false
set_option linter.unusedVariables false
namespace Go.Eng
open Go Go.Proofs
abbrev F4 :Fi:=⟨[],[0,1,2,4,5,6,18],[],[],[(2,(2,0)),(5,(5,0))],[],[],[]⟩
abbrev F9 :Fi:=⟨[],[0,1,2,4,5,6,7,22],[],[],[(2,(2,0)),(4,(4,0)),(6,(6,0)),(16,(2,0)),(25,(2,0))],[],[],[]⟩
abbrev F12 :Fi:=⟨[],[0,1,4,5,6,11,13,14,15,27,32,33,34,50],[(4,[0,1,13,14]),(9,[0,1,5,13,14,32,33])],[],[],[],[],[]⟩
abbrev F13 :Fi:=⟨[],[0,2,3,4,8],[(3,[0,3,4])],[],[],[],[],[]⟩
abbrev F15 :Fi:=⟨[],[0,1,2,4,5,6,7,15,25],[(4,[2,5,6,7])],[],[(2,(2,0)),(18,(2,0)),(19,(2,10))],[],[],[]⟩
abbrev F16 :Fi:=⟨[],(0::1::3::4::5::6::7::8::9::10::12::13::15::23::31::32::33::34::38::39::40::41::58::59::60::61::69::[]),[(6,[0,3,5,7,31,32,33]),(10,[0,3,5,8,9,10,31,32,33,38,39,40]),(18,[3,13,58,59,60])],[],[(3,(3,0)),(5,(5,0)),(12,(12,0)),(15,(15,0)),(24,(3,24)),(30,(3,23)),(46,(12,1)),(64,(3,0)),(65,(3,10)),(67,(15,1)),(71,(15,1))],[51,53,74],[],[]⟩
abbrev F19 :Fi:=⟨[],[0,1,3,4,5,6,11,24],[],[],[(3,(3,0)),(17,(3,0)),(21,(3,3)),(26,(3,1)),(30,(3,1)),(32,(3,3))],[],[],[]⟩
abbrev F26 :Fi:=⟨[],[0,1,2,3,4,5,6,47,53,81],[(5,[1,2,4,5])],[],((1,(1,0))::(2,(2,0))::(4,(4,0))::(6,(6,0))::(7,(1,3))::(11,(1,0))::(16,(1,0))::(22,(1,1))::(28,(1,1))::(34,(1,2))::(37,(1,1))::(43,(1,3))::(50,(1,1))::(56,(1,1))::(63,(1,1))::(68,(1,0))::(74,(1,2))::(83,(1,0))::(85,(1,1))::(92,(4,23))::(94,(1,1))::(101,(4,23))::(102,(4,0))::(103,(4,9))::(105,(6,0))::(107,(1,2))::(115,(4,0))::(116,(4,9))::(117,(4,24))::(122,(4,24))::(124,(1,0))::(127,(1,3))::(130,(1,1))::[]),[],[],[]⟩
abbrev F27 :Fi:=⟨[],[0,1,2,4,6,7,8,29,33,41,48,64],[(4,[0,2,7]),(9,[0,2,7,8])],[],[(4,(4,0)),(15,(4,0)),(16,(4,10)),(17,(4,10)),(21,(4,0)),(22,(4,10)),(24,(4,24))],[],[],[]⟩
abbrev F28 :Fi:=⟨[],[0,1,4,5,6,7,8,9,13,14,15,16,17,21,22,23,24,35],[(5,[5,14,15,16]),(8,[5,6,14,15,16,21,22,23])],[],[],[],[],[]⟩
abbrev F34 :Fi:=⟨[],[0,1,4,5,6,7,11,24,37],[(4,[0,1,5,6,7])],[],[],[],[],[]⟩
abbrev F35 :Fi:=⟨[],[0,1,2,3,4,8,9,10,11,16,31],[(6,[1,2,3,4,9,10,11])],[],[(4,(4,0)),(13,(4,23)),(21,(4,23))],[],[],[]⟩
abbrev F36 :Fi:=⟨[],[0,1,2,4],[],[],[(2,(2,0)),(5,(2,0))],[],[],[]⟩
abbrev F37 :Fi:=⟨[10],[0,1,3,4,5,6,7,9,10,12,17,18,19,20,32,33,34,38],[(4,[0,4,6,7,17,18,19]),(1000010,[10])],[],[(3,(3,0)),(4,(4,0)),(6,(6,0)),(16,(3,23)),(23,(6,27)),(28,(6,27))],[],[],[]⟩
abbrev F38 :Fi:=⟨[4,5,6,9],[0,1,2,3,4,5,6,8,9,10,11,12,13,14],[(1000005,[4,5,6,9])],[],[],[23],[(21,2)],[]⟩
abbrev F39 :Fi:=⟨[],[0,1,4,15],[],[],[],[],[],[]⟩
abbrev F40 :Fi:=⟨[],[0,1,2],[],[],[(1,(1,0))],[],[],[1]⟩
abbrev F41 :Fi:=⟨[],[0,1,2,4],[],[],[(2,(2,0)),(5,(2,0))],[],[],[]⟩
abbrev F42 :Fi:=⟨[],[0,1],[],[],[],[],[],[]⟩
abbrev F43 :Fi:=⟨[],[0,1,4],[],[],[],[],[],[]⟩
abbrev F46 :Fi:=⟨[],[0,1,3,4,5,6,7,50,58,66],[],[],[(3,(3,0)),(9,(3,0)),(15,(3,1)),(20,(3,1)),(25,(3,2)),(30,(3,3)),(37,(3,3)),(43,(3,0)),(45,(3,3)),(53,(3,1)),(59,(3,2)),(67,(3,2)),(76,(3,2))],[],[],[]⟩
abbrev F47 :Fi:=⟨[],[0,1,4,5,6,7,9,20,24,25,26,27],[(5,[1,6,24,25,26])],[],[(9,(9,0)),(30,(9,1)),(33,(9,0))],[39],[],[]⟩
abbrev F48 :Fi:=⟨[],[0,1,2,6,8,20,36,37,38,39],[(7,[0,1,2,36,37,38])],[],[(8,(8,0)),(42,(8,1)),(45,(8,0))],[52],[],[]⟩
abbrev F56 :Fi:=⟨[],[0,2,3,4,5,6,10,39,44,54,59,70],[(2,[0,3]),(8,[0,3,4,5]),(13,[0,3,4,6])],[],[(4,(4,0)),(17,(4,2)),(22,(4,3)),(28,(4,0)),(30,(4,1)),(32,(4,4)),(41,(4,2)),(47,(4,2)),(56,(4,3)),(62,(4,3))],[],[],[]⟩
abbrev F57 :Fi:=⟨[],[0,2,3,4,5,6,7,8,11,15,25,41,49,95,99],[(2,[0,3]),(5,[0,3,4]),(10,[0,3,5]),(17,[0,7,8])],[],[(6,(6,0)),(64,(6,0)),(69,(6,1)),(74,(6,1)),(80,(6,2)),(85,(6,2)),(88,(6,1))],[],[],[]⟩
abbrev F58 :Fi:=⟨[],[0,1,2,4,5,20,25,36],[(4,[1,2,5])],[],[(2,(2,0)),(11,(2,0)),(15,(2,7)),(22,(2,7)),(28,(2,7))],[],[],[]⟩
abbrev F59 :Fi:=⟨[],[0,1,2,3,4,5,10],[(3,[1,3,4])],[],[(1,(1,0)),(5,(5,0)),(7,(1,1)),(13,(1,1)),(19,(5,1)),(21,(5,2)),(23,(5,3)),(25,(5,4)),(27,(5,5))],[],[],[]⟩
abbrev F60 :Fi:=⟨[],[0,1,2,3,5,6,8,9,22,27,39],[(4,[0,3,5,6,9])],[],[(5,(5,0)),(6,(6,0)),(10,(6,0)),(17,(6,3)),(24,(6,7)),(32,(6,7))],[],[],[]⟩
abbrev F61 :Fi:=⟨[],[0,1,2,3,6],[],[],[(3,(3,0))],[],[],[]⟩
abbrev F62 :Fi:=⟨[],[0,1,4,5,6,11,15,23,24,33,34,56,57,74],[(4,[0,1,5])],[],[(6,(6,0)),(22,(6,0)),(26,(6,1)),(30,(6,2)),(43,(6,2)),(48,(6,1)),(53,(6,1)),(66,(6,1))],[],[],[]⟩
abbrev F63 :Fi:=⟨[9],[0,2,3,5,13,14,15,16],[(3,[3,13,14,15])],[],[(5,(5,0))],[],[],[]⟩
abbrev F70 :Fi:=⟨[],[0,1,4,5,6,16,29],[(2,[0,1,5])],[],[],[],[],[]⟩
abbrev F71 :Fi:=⟨[],(0::1::2::4::5::6::7::8::9::10::11::13::14::16::27::27::52::59::62::71::93::98::99::104::109::114::119::124::[]),[],[],[(2,(2,0)),(9,(9,0)),(10,(10,0)),(12,(2,0)),(18,(2,7)),(30,(2,7)),(36,(2,7)),(42,(2,0)),(64,(2,7)),(74,(2,7)),(80,(2,7)),(86,(9,0)),(90,(10,0)),(97,(2,0)),(129,(9,2)),(131,(10,2))],[],[],[]⟩
abbrev zUp :Fi:=⟨[],[0,1,2,3,4,5,10,11],[],[],[(5,(5,0)),(10,(10,0)),(15,(5,27))],[],[(13,1)],[]⟩
abbrev F73 :Fi:=⟨[],[0,1,2],[],[],[(1,(1,0))],[],[],[1]⟩
abbrev F74 :Fi:=⟨[],[0,1],[],[],[],[],[],[]⟩
abbrev F75 :Fi:=⟨[3,5],[0,1,3,4,5,6,7,12,13,14,17],[(1000005,[3,5])],[],[],[],[],[]⟩
abbrev F76 :Fi:=⟨[],[2],[],[],[],[],[],[]⟩
abbrev F77 :Fi:=⟨[],[0,1,2,4,5,6,8,9,11,26,41,58,76,79],[],[],[(2,(2,0)),(5,(5,0)),(6,(6,0)),(7,(2,0)),(13,(2,7)),(19,(2,7)),(28,(2,7)),(34,(2,7)),(43,(2,7)),(50,(2,7)),(56,(2,0)),(59,(5,0)),(63,(2,7)),(69,(5,0)),(73,(6,0)),(77,(2,0)),(80,(5,2)),(82,(6,2)),(86,(2,0)),(88,(5,1)),(90,(6,1)),(93,(5,2)),(95,(6,2))],[],[],[]⟩
abbrev F78 :Fi:=⟨[],[0,1,2,6,7,8,9,13,30,35,54],[(2,[0,1,2,6,7,8]),(7,[0,1,2,6]),(9,[0,1,2,6,7,8])],[],[],[],[],[]⟩
abbrev F79 :Fi:=⟨[],[0,1,2,6,7,8,9,10,11,12,13,14,21,31,38],[(2,[0,1,2,11,12,13])],[],[(8,(8,0)),(9,(9,0))],[],[],[]⟩
abbrev F80 :Fi:=⟨[],[0,1,2,3,4],[],[],[(2,(2,0)),(3,(3,0)),(5,(2,0)),(7,(3,0)),(10,(2,1)),(12,(3,1)),(15,(2,2)),(17,(3,2))],[],[],[]⟩
abbrev F82 :Fi:=⟨[],[0,1,2,6],[],[],[],[],[],[]⟩
abbrev F83 :Fi:=⟨[],[0,1,4,5,6,7],[],[],[],[],[],[]⟩
abbrev F84 :Fi:=⟨[],[0,1,4,5,6,7,34,47],[],[],[],[],[],[]⟩
abbrev F86 :Fi:=⟨[],[0,1,4,5,7,8,9,10,11,12,22],[(3,[0,5,9,10,11])],[],[(8,(8,0))],[],[],[]⟩
abbrev F87 :Fi:=⟨[],[0,2,3,4,5,11,12,13],[(3,[3,4,11,12])],[],[],[9],[],[]⟩
abbrev F88 :Fi:=⟨[],[0,1,4],[],[],[],[],[],[]⟩
abbrev F89 :Fi:=⟨[],[0,2,4],[],[],[],[],[],[]⟩
abbrev zUs :Fi:=⟨[],[0,2,4],[],[],[],[7],[],[]⟩
abbrev F90 :Fi:=⟨[41],[0,1,2,6,7,8,9,33,51],[],[],[],[],[],[]⟩
abbrev F91 :Fi:=⟨[41],[0,1,2,6,7,8,9,33,51],[],[],[],[],[],[]⟩
abbrev F97 :Fi:=⟨[],[0,1,4,5,6,11,12,13,16,19],[],[],[],[],[],[]⟩
abbrev F98 :Fi:=⟨[],[0,2,3,4,5,6,7,8,12,50,55,65,70,79,84,114,119,128],[(2,[0,3]),(8,[0,3,4,5]),(13,[0,3,4,6]),(18,[0,3,4,7]),(23,[0,3,4,8])],[],[(4,(4,0)),(28,(4,0)),(34,(4,1)),(40,(4,2)),(46,(4,3)),(52,(4,0)),(58,(4,0)),(67,(4,1)),(73,(4,1)),(81,(4,2)),(87,(4,2)),(96,(4,2)),(106,(4,2)),(116,(4,3)),(122,(4,3))],[],[],[]⟩
abbrev F99 :Fi:=⟨[],[0,1,4,5,9,17],[(2,[0,1,5])],[],[],[],[],[]⟩
abbrev xLk :Fi:=⟨[],[0,1,2,4,5,9,26],[(2,[1,2,5])],[],[(2,(2,0)),(22,(2,1))],[],[],[]⟩
abbrev xLj :Fi:=⟨[],[0,1,4,5,6,7,8,9,10,30,51],[(5,[0,4,5,6,7]),(9,[0,4,5,6,8])],[],((4,(4,0))::(5,(5,0))::(6,(6,0))::(9,(9,0))::(10,(10,0))::(15,(5,0))::(18,(5,1))::(20,(5,4))::(22,(6,2))::(23,(6,2))::(24,(6,2))::(25,(6,5))::(27,(5,2))::(33,(6,2))::(34,(6,3))::(37,(5,2))::(45,(6,2))::(46,(6,3))::(48,(5,3))::(54,(5,3))::(60,(9,1))::(64,(6,2))::(65,(6,4))::(68,(9,0))::(71,(10,0))::(74,(10,2))::(76,(9,2))::(84,(6,2))::(85,(6,4))::[]),[],[],[]⟩
abbrev xLi :Fi:=⟨[],[0,2,3,4,5,6,7,8,9,10,14,22,29,56,62,70,83],[(3,[0,5,6])],[],[(7,(7,0)),(9,(9,0)),(33,(7,0)),(39,(7,1)),(45,(7,2)),(51,(7,3))],[],[],[]⟩
abbrev xEv :Fi:=⟨[],[0,1,2,4,5,28,33,44],[(4,[1,2,5])],[],[(2,(2,0)),(9,(2,7)),(15,(2,2)),(18,(2,1)),(22,(2,4)),(23,(2,6)),(30,(2,7)),(36,(2,7))],[],[],[]⟩
abbrev xLh :Fi:=⟨[],[0,1,4,5,9,17],[(2,[0,1,5])],[],[],[],[],[]⟩
abbrev xLg :Fi:=⟨[],[0,1,2,4,6,7,8,13,38],[(2,[0,2,4,7])],[],[(4,(4,0)),(10,(4,23)),(27,(4,23))],[],[],[]⟩
abbrev xLf :Fi:=⟨[],[0,1,2,3,4,13],[(3,[1,3,4])],[],[(1,(1,0)),(6,(1,7)),(17,(1,7))],[],[],[]⟩
abbrev xLe :Fi:=⟨[],[0,1,2,3,6,7],[],[],[(3,(3,0))],[],[],[]⟩
abbrev xLd :Fi:=⟨[],[0,1,2,4,5,15,20,30],[(4,[1,2,5])],[],[(2,(2,0)),(17,(2,7)),(23,(2,7))],[],[],[]⟩
abbrev xLc :Fi:=⟨[],[0,1,2,3,16,34,48,53,67],[(7,[1,3])],[],[(1,(1,0)),(4,(1,0)),(8,(1,1)),(13,(1,2)),(17,(1,0)),(21,(1,2)),(26,(1,1)),(31,(1,1)),(35,(1,0)),(39,(1,1)),(44,(1,2)),(50,(1,2)),(56,(1,2)),(62,(1,2))],[],[],[]⟩
abbrev xLb :Fi:=⟨[],[0,2,3,5,6,7,8,9,10,11,24,25,26,45,46,47],[(3,[3,8,9,10]),(8,[3,5,8,9,10,24,25]),(14,[3,5,8,9,10,45,46])],[],[(5,(5,0)),(14,(5,1)),(17,(5,1)),(18,(5,2)),(21,(5,2)),(22,(5,2)),(28,(5,2)),(31,(5,2)),(39,(5,3)),(42,(5,3)),(43,(5,3)),(49,(5,3)),(52,(5,3)),(62,(5,4))],[36,58],[(20,1),(41,1)],[]⟩
abbrev xLa :Fi:=⟨[13],[0,1,2,3,5,7,15,16,17,18,26,27,28,29],[(3,[1,3,15,16,17]),(8,[3,26,27,28])],[],[(1,(1,0)),(7,(7,0)),(8,(1,1)),(14,(1,2)),(25,(1,3)),(33,(7,0))],[11,13],[],[]⟩
abbrev xKz :Fi:=⟨[],[0,1,2,4,6,7,8,11],[(3,[0,2,4,7,8])],[],[(4,(4,0)),(16,(4,23))],[],[],[]⟩
abbrev xKy :Fi:=⟨[],[0,1,2,3,4,9,19],[],[],[(2,(2,0)),(3,(3,0)),(5,(2,0)),(7,(3,0)),(10,(2,0)),(12,(3,0)),(15,(2,1)),(17,(3,1)),(20,(2,1)),(22,(3,1)),(25,(2,2)),(27,(3,2))],[],[],[]⟩
abbrev xKx :Fi:=⟨[],[0,1,4,7,10],[],[],[],[],[],[]⟩
abbrev xKw :Fi:=⟨[],[0,2,3],[],[],[],[],[],[]⟩
abbrev yXm :Fi:=⟨[],[0,1,2,4,5,6,9,14,28,32,39,52,55,56,64,72,80],[],[],((2,(2,0))::(4,(4,0))::(5,(5,0))::(6,(6,0))::(7,(2,0))::(10,(2,4))::(12,(2,0))::(16,(2,3))::(20,(2,7))::(26,(5,0))::(30,(2,0))::(33,(5,1))::(37,(2,0))::(40,(5,2))::(44,(2,7))::(50,(6,0))::(54,(2,0))::(58,(5,1))::(60,(6,1))::(66,(5,1))::(68,(6,1))::(74,(5,1))::(76,(6,1))::(82,(5,1))::(84,(6,1))::(88,(5,1))::(90,(6,1))::(92,(5,1))::(94,(6,1))::[]),[],[],[]⟩
abbrev xKv :Fi:=⟨[],[0,1,2,3,4,16,28],[],[],[(2,(2,0)),(3,(3,0)),(5,(2,1)),(7,(3,1)),(11,(2,2)),(13,(3,2)),(17,(2,1)),(19,(3,1)),(23,(2,2)),(25,(3,2))],[],[],[]⟩
abbrev xKu :Fi:=⟨[],[0,1,4,5,6,7,8,18,28,34,54],[(4,[0,1,5,6]),(8,[0,1,5,6,7,8])],[],[],[12,24],[],[]⟩
abbrev xKt :Fi:=⟨[],[0,1,4,6,7,8,9,19],[(1,[0,6,7,8])],[],[(4,(4,0)),(13,(4,0)),(15,(4,1))],[17,18],[],[]⟩
abbrev xKs :Fi:=⟨[],[0,2],[],[],[],[],[],[]⟩
abbrev xKr :Fi:=⟨[],[0,1,4],[],[],[],[],[],[]⟩
abbrev xKq :Fi:=⟨[],[0,1,4],[],[],[],[],[],[]⟩
abbrev xKp :Fi:=⟨[],[0,2],[],[],[],[],[],[]⟩
abbrev xEu :Fi:=⟨[],[0,1,2,4,5,7,8,10,11,15,23,24,25,26,34],[(8,[1,2,4,5,23,24,25])],[],[(2,(2,0)),(4,(4,0)),(7,(7,0)),(8,(8,0)),(9,(2,0)),(13,(2,4)),(18,(2,3)),(22,(2,7)),(32,(8,0)),(41,(2,0))],[],[],[]⟩
abbrev xKo :Fi:=⟨[],[0,2,3],[],[],[],[],[],[]⟩
abbrev xKn :Fi:=⟨[],[0,1,3,4,5,6,7,8,9,20,21,22,29,30,31,37,40,41,46,46],[(6,[0,3,5,6,20,21]),(10,[0,3,5,6,7,8,20,21,29,30])],[],[(3,(3,0)),(5,(5,0))],[13,27],[],[3,5]⟩
abbrev xKm :Fi:=⟨[],[0,1,4,5,6,10,14,18,22],[],[],[],[],[],[]⟩
abbrev xKl :Fi:=⟨[],[0,2,3,5,6,7,8,9,14],[(3,[3,6,7,8])],[],[],[],[],[]⟩
abbrev xKk :Fi:=⟨[],[0,1,4],[],[],[],[],[],[]⟩
abbrev xEt :Fi:=⟨[],[0,1,2,3,8,9,14,34],[(1,[0,1,2,3,8]),(4,[0,1,2,3,8,9])],[],[],[32],[],[]⟩
abbrev yXl :Fi:=⟨[],(0::1::2::3::4::10::11::12::13::14::15::16::17::18::19::20::21::22::23::24::28::33::50::58::80::85::103::110::140::151::171::185::199::213::[]),[(3,[0,1,4,10,11]),(9,[0,10,13]),(15,[0,2,4,14,15]),(21,[0,14,17]),(33,[0,1,2,3,4,18,19,20,21,22])],[],[],[49,101,169],[],[]⟩
abbrev xKj :Fi:=⟨[],[0,1,4,5,6,11,12,13,16,19],[],[],[],[],[],[]⟩
abbrev xKi :Fi:=⟨[],[0,1,4],[],[],[],[],[],[]⟩
abbrev xKh :Fi:=⟨[],[0,1,2],[],[],[(1,(1,0))],[],[],[]⟩
abbrev xKg :Fi:=⟨[],[0,1,2,4,5,10,15],[],[],[(1,(1,0)),(3,(1,0)),(12,(1,2)),(17,(1,1)),(21,(1,2))],[],[],[]⟩
abbrev xKf :Fi:=⟨[],[0,1,4,5,6,7,8,9,20,29],[(2,[1,6])],[],[],[],[],[]⟩
abbrev xKe :Fi:=⟨[],[0,1,2,6,7,8,9,10,11,12,13,21,23,56,129],[],[],[],[49,102],[],[]⟩
abbrev xEs :Fi:=⟨[],[0,2],[],[],[],[],[],[]⟩
abbrev xKd :Fi:=⟨[],[0,2],[],[],[],[],[],[]⟩
abbrev xKc :Fi:=⟨[],[0,1,3,4,6,8,9,18,25,26,27,28,32],[(7,[0,25,26,27])],[],[(3,(3,0)),(7,(3,0)),(14,(3,1)),(23,(3,2))],[],[],[]⟩
abbrev xKb :Fi:=⟨[],[0,1,2],[],[],[(1,(1,0))],[],[],[]⟩
abbrev xKa :Fi:=⟨[],[0,1,2,3,8,9,10,11,12,13,14,15,22,46,99],[],[1000007],[],[64],[],[]⟩
abbrev xJz :Fi:=⟨[],[0,1,2,3,8,9,10,11,12,13,14,15,22,46,99],[],[1000007],[],[64],[],[]⟩
abbrev xJy :Fi:=⟨[],[0,2],[],[],[],[],[],[]⟩
abbrev xJx :Fi:=⟨[],[0,1,2,4,5,28,33,44],[(4,[1,2,5])],[],[(2,(2,0)),(9,(2,7)),(15,(2,1)),(18,(2,2)),(22,(2,4)),(23,(2,6)),(30,(2,7)),(36,(2,7))],[],[],[]⟩
abbrev xJw :Fi:=⟨[],[0,1,2,4,5,6,10],[(3,[1,2,5,6])],[],[(2,(2,0)),(14,(2,1))],[],[],[]⟩
abbrev xJv :Fi:=⟨[],[0,1,2,3,4,5,6,18,23,32,37,46,51,78],[(5,[3,4]),(10,[3,5]),(15,[3,6])],[],[(1,(1,0)),(3,(3,0)),(7,(1,2)),(9,(1,1)),(14,(3,0)),(20,(3,0)),(26,(3,0)),(34,(3,1)),(40,(3,1)),(48,(3,2)),(54,(3,2)),(63,(3,2)),(70,(3,2))],[],[],[]⟩
abbrev xJu :Fi:=⟨[],[0,1,3,4,5,7,8,9,10,11,12,22,27,40,45,53,56,69,74,83],[(7,[5,8,9]),(13,[5,10]),(18,[5,10,11]),(23,[5,12])],[],[(3,(3,0)),(5,(5,0)),(13,(3,2)),(17,(3,1)),(24,(5,0)),(31,(5,0)),(42,(5,1)),(48,(5,1)),(59,(5,1)),(64,(5,1)),(71,(5,2)),(77,(5,2))],[],[],[]⟩
abbrev xJt :Fi:=⟨[],(0::1::3::4::5::6::7::8::9::10::11::12::13::14::15::16::17::18::19::20::21::36::51::70::98::117::132::135::145::156::[]),[(3,[0,3,4,6,7]),(12,[3,4,6,10,11,12]),(22,[3,4,6,10,11,12,14,16,18,19,20,21])],[],[(3,(3,0)),(4,(4,0)),(6,(6,0)),(13,(13,0)),(22,(3,1)),(24,(3,2)),(25,(3,2)),(27,(3,2)),(28,(3,5)),(32,(3,2)),(33,(3,3)),(41,(3,2)),(42,(3,3)),(53,(6,2)),(58,(6,2)),(66,(3,2)),(67,(3,4)),(73,(3,2)),(74,(3,4)),(81,(13,0)),(88,(13,1)),(105,(13,2)),(146,(6,3)),(154,(6,3))],[],[],[]⟩
abbrev yHi :Fi:=⟨[],(0::1::2::4::5::6::8::9::14::18::53::60::60::60::60::71::81::82::82::82::82::82::100::101::101::101::101::101::101::125::126::141::142::142::152::[]),[],[],[(2,(2,0)),(5,(5,0)),(6,(6,0)),(7,(2,0)),(11,(2,7)),(15,(2,4)),(20,(2,7)),(25,(2,3)),(30,(2,3)),(38,(2,3)),(47,(2,3)),(55,(2,3)),(68,(2,7)),(72,(2,7)),(76,(2,7)),(80,(2,0)),(132,(6,0))],[],[],[]⟩
abbrev xJs :Fi:=⟨[],[0,1,2,4,5,6,7,8,10,11,16,18,20,47,51,54,54,60,70],[],[],[(2,(2,0)),(9,(2,0)),(13,(2,4)),(14,(2,5)),(22,(2,7)),(28,(2,7)),(34,(2,7)),(50,(2,0))],[],[],[]⟩
abbrev xJr :Fi:=⟨[],[0,2,4],[],[],[],[],[],[]⟩
abbrev zUr :Fi:=⟨[],[0,2,4],[],[],[],[7],[],[]⟩
abbrev xJq :Fi:=⟨[],[0,2,4],[],[],[],[],[],[]⟩
abbrev zUq :Fi:=⟨[],[0,2,4],[],[],[],[7],[],[]⟩
abbrev xJp :Fi:=⟨[4,9],[0,2],[],[],[],[],[],[]⟩
abbrev xJo :Fi:=⟨[],[0,1,2,4,6,26],[],[],[(2,(2,0)),(5,(5,0))],[],[],[2]⟩
abbrev xJn :Fi:=⟨[],[0,1,4,5,15,24],[(2,[0,1,5])],[],[],[],[],[]⟩
abbrev xJm :Fi:=⟨[],[0,2],[],[],[(2,(2,0))],[],[],[]⟩
abbrev xJl :Fi:=⟨[],[0,1,4,5,19],[],[],[],[],[],[]⟩
abbrev xJk :Fi:=⟨[],[0,1,2,3,4,5,6],[],[],[(3,(3,0)),(4,(4,0)),(5,(5,0))],[],[],[3,4,5]⟩
abbrev xJj :Fi:=⟨[],[0,2,3,4,6],[],[],[],[],[],[]⟩
abbrev xEr :Fi:=⟨[],[0,1,4,5,6,11,12,16,27,28,33,38,43],[],[],[],[],[],[]⟩
abbrev xJi :Fi:=⟨[],[0,1,2,4,5,6,17],[(1,[0,1,4,5])],[],[],[],[],[]⟩
abbrev xJh :Fi:=⟨[],[0,1,2,3,4,10,11,20,23],[(2,[0,2,4,10,11])],[],[],[],[],[]⟩
abbrev xJg :Fi:=⟨[],[0,2],[],[],[],[],[],[]⟩
abbrev xJf :Fi:=⟨[],[0,1,4],[],[],[],[],[],[]⟩
abbrev xJe :Fi:=⟨[],[0,1,4],[],[],[],[],[],[]⟩
abbrev xJd :Fi:=⟨[],[0,1,3,4,5,6,14],[],[],[(3,(3,0)),(4,(4,0))],[],[],[3]⟩
abbrev xJc :Fi:=⟨[],[0,1,4,5,7,8,9,16],[(2,[0,1,7,8])],[],[],[],[],[]⟩
abbrev xJb :Fi:=⟨[],[0,2,3,5,6,7,18],[(2,[0,5,6])],[],[],[],[],[]⟩
abbrev xJa :Fi:=⟨[],[0,1,4,5],[],[],[],[],[],[]⟩
abbrev xIz :Fi:=⟨[],[0,1,4,5],[],[],[],[],[],[]⟩
abbrev xIy :Fi:=⟨[],[0,1,2,6,7,8,9,16,22,31,68],[],[],[],[],[],[]⟩
abbrev xIx :Fi:=⟨[],[0,2,3,21,25,56],[(4,[0,3])],[],[],[],[],[]⟩
abbrev xIw :Fi:=⟨[],[0,1,2,6,9],[],[],[(1,(1,0)),(3,(1,0)),(7,(1,1)),(10,(1,2)),(14,(1,2)),(16,(1,3)),(21,(1,3)),(26,(1,4)),(30,(1,1)),(34,(1,4)),(39,(1,4)),(44,(1,2)),(49,(1,3))],[],[],[]⟩
abbrev xIv :Fi:=⟨[],[0,1,4,5,6,10,19],[(2,[0,1,6])],[],[],[],[],[]⟩
abbrev xIu :Fi:=⟨[],[0,2,3,4,8,13,24],[(2,[0,3]),(5,[0,3,4])],[],[],[],[],[]⟩
abbrev xIt :Fi:=⟨[],[0,1,4,5,10,14,25],[(4,[0,1,5])],[],[],[],[],[]⟩
abbrev xIs :Fi:=⟨[],[0,1,2,4,5,6,7,8,9,13,26],[(3,[1,2,6,7])],[],[(2,(2,0))],[],[],[]⟩
abbrev xIr :Fi:=⟨[],[0,1,4,5,10,14,25],[(4,[0,1,5])],[],[],[],[],[]⟩
abbrev xIq :Fi:=⟨[],[0,1,2,3,4,5,8,9,13,34],[(2,[2,3,4,5,9])],[],[(4,(4,0)),(5,(5,0)),(16,(4,1)),(25,(5,1))],[],[],[]⟩
abbrev xEq :Fi:=⟨[],[0,1,2,4,5,9,14,14,31,31],[],[],[(2,(2,0)),(5,(5,0)),(6,(2,7)),(10,(2,7)),(15,(2,0)),(23,(2,0)),(32,(2,0)),(45,(2,0))],[],[],[]⟩
abbrev xIp :Fi:=⟨[],[0,1,2,4,5,6,7,18,29,37],[],[],[(2,(2,0)),(5,(5,0)),(6,(6,0)),(7,(7,0)),(8,(2,7)),(12,(2,7)),(16,(2,0)),(27,(2,0)),(40,(7,0)),(44,(7,1)),(49,(7,1))],[],[],[]⟩
abbrev xIo :Fi:=⟨[],[0,1,3],[],[],[],[],[],[]⟩
abbrev xIn :Fi:=⟨[4,9],[0,2],[],[],[],[],[],[]⟩
abbrev xIm :Fi:=⟨[],[0,1,2,3,6,13,14,15,16,25],[(1,[0,13,14,15])],[],[(6,(6,0)),(20,(6,0)),(22,(6,1))],[13],[],[]⟩
abbrev xIl :Fi:=⟨[],[0,1,2,3,8,9,11,26,31,67],[(4,[0,1,2,3,9])],[],[],[],[],[]⟩
abbrev xIk :Fi:=⟨[],[0,1,4,5,12],[],[],[],[],[],[]⟩
abbrev xIj :Fi:=⟨[],[0,1,2,3,10,13],[(1,[0,1,2,3,10])],[],[],[],[],[]⟩
abbrev xIi :Fi:=⟨[],[0,1,4,5,7,8,9,16],[(2,[0,1,7,8])],[],[],[],[],[]⟩
abbrev xIh :Fi:=⟨[],[0,1,4,5,7,8,9,16],[(2,[0,1,7,8])],[],[],[],[],[]⟩
abbrev xIg :Fi:=⟨[],[0,1,2,3],[],[],[(2,(2,0)),(4,(2,0))],[],[],[]⟩
abbrev xIf :Fi:=⟨[],[0,1,4,5,10,12,13,14,24],[(4,[0,1,12,13])],[],[],[],[],[]⟩
abbrev xIe :Fi:=⟨[],[0,1,2,6,7,8,9,10,11,17,31],[(3,[0,1,2,8,9,10])],[],[],[],[],[]⟩
abbrev xId :Fi:=⟨[],[0,1,2,6,7,8,9,10,11,17,31],[(3,[0,1,2,8,9,10])],[],[],[],[],[]⟩
abbrev xIc :Fi:=⟨[],[0,1,4,5,6,11,12,13,16,19],[],[],[],[],[],[]⟩
abbrev xIb :Fi:=⟨[],[0,1,4,5,12,23],[(2,[0,1,5])],[],[],[],[],[]⟩
abbrev xIa :Fi:=⟨[],[0],[],[],[],[],[],[]⟩
abbrev xHz :Fi:=⟨[],[0,1,2,4,5,6,11,21],[(2,[1,2,6])],[],[(2,(2,0)),(8,(2,1)),(14,(2,1))],[],[],[]⟩
abbrev xHy :Fi:=⟨[],[0,1,2,3,8,16],[(2,[1,3])],[],[(1,(1,0)),(5,(1,7)),(11,(1,7)),(17,(1,0))],[],[],[]⟩
abbrev xHx :Fi:=⟨[],[0,2],[],[],[],[],[],[]⟩
def xSk :List (Nat×Fi):=[
(4,F4),
(9,F9),
(10,⟨[],[0,1,2,3,4,5,6,7,24],[],[],[(3,(3,0)),(5,(5,0)),(6,(6,0))],[],[],[]⟩),
(12,F12),
(13,F13),
(14,⟨[7,9],[0,1,2,3,5,6,7,8,9,10,11,17,18,19,23],[(1000006,[7,9])],[],[(5,(5,0)),(6,(6,0))],[],[],[]⟩),
(15,F15),
(16,F16),
(17,⟨[],[0,1,2,4,5,6],[],[],[(4,(4,0)),(5,(5,0))],[],[],[]⟩),
(18,⟨[],[0,1,2,3,4,5,6],[],[],[(3,(3,0)),(4,(4,0)),(5,(5,0))],[],[],[3,4,5]⟩),
(19,F19),
(26,F26),
(27,F27),
(28,F28),
(29,⟨[],[0,2],[],[],[(2,(2,0))],[],[],[]⟩),
(30,⟨[],[0,2],[],[],[(2,(2,0))],[],[],[]⟩),
(34,F34),
(35,F35),
(36,F36),
(37,F37),
(38,F38),
(39,F39),
(40,F40),
(41,F41),
(42,F42),
(43,F43),
(44,⟨[],[0,1,2,4,5,6,7,8,16],[],[],[(4,(4,0)),(5,(5,0)),(7,(7,0)),(19,(4,24))],[23],[],[]⟩),
(45,⟨[],[0,1,2,3,6,10,11,12,13,20],[(1,[0,10,11,12])],[],[(6,(6,0)),(17,(6,1))],[],[],[]⟩),
(46,F46),
(47,F47),
(48,F48),
(56,F56),
(57,F57),
(58,F58),
(59,F59),
(60,F60),
(61,F61),
(62,F62),
(63,F63),
(64,⟨[],[0,1,2,4,5,6,19,31],[(5,[1,2,5,6])],[],[(2,(2,0)),(7,(2,2)),(10,(2,1)),(14,(2,4)),(15,(2,6)),(23,(2,7)),(35,(2,7))],[],[],[]⟩),
(70,F70),
(71,F71),
(72,⟨[],[0,1,2,3,4,5,10,11],[],[],[(5,(5,0)),(10,(10,0)),(15,(5,27))],[],[(13,1)],[]⟩),
(200072,zUp),
(73,F73),
(74,F74),
(75,F75),
(100075,⟨[3,5],[0,1,3,4,5,6,7,12,13,14,17],[(1000005,[3,5])],[],[],[23],[],[]⟩),
(76,F76),
(77,F77),
(78,F78),
(79,F79),
(80,F80),
(81,⟨[4,10],(0::1::2::3::4::6::7::9::10::11::12::13::15::17::18::36::39::40::41::42::71::74::75::76::77::83::93::119::136::137::138::139::[]),[(7,[2,3,4,7,39,40,41]),(15,[2,3,4,10,74,75,76]),(27,[3,4,13,136,137,138])],[],[(3,(3,0)),(9,(9,0)),(12,(12,0)),(15,(15,0)),(24,(3,0)),(26,(3,1)),(27,(3,24)),(56,(3,0)),(58,(3,1)),(59,(3,24)),(81,(12,0)),(99,(3,0)),(101,(3,1)),(102,(3,24)),(148,(15,1))],[35,70,118,127,129,136,150,151],[(48,2),(87,2)],[]⟩),
(82,F82),
(83,F83),
(84,F84),
(86,F86),
(87,F87),
(88,F88),
(89,F89),
(100089,zUs),
(90,F90),
(91,F91),
(97,F97),
(98,F98),
(99,F99),
(100,xLk),
(101,xLj),
(102,xLi),
(103,xEv),
(104,xLh),
(105,xLg),
(106,xLf),
(107,xLe),
(108,xLd),
(109,xLc),
(110,xLb),
(111,xLa),
(114,xKz),
(117,xKy),
(118,xKx),
(119,xKw),
(120,yXm),
(121,xKv),
(122,xKu),
(123,xKt),
(124,xKs),
(125,xKr),
(126,xKq),
(127,xKp),
(128,xEu),
(200128,⟨[],[0,1,2,4,5,7,8,10,11,15,23,24,25,26,34],[(8,[1,2,4,5,23,24,25])],[],[(2,(2,0)),(4,(4,0)),(7,(7,0)),(8,(8,0)),(9,(2,0)),(13,(2,4)),(18,(2,3)),(22,(2,7)),(32,(8,0)),(41,(2,0))],[],[],[]⟩),
(129,xKo),
(130,xKn),
(131,xKm),
(132,xKl),
(133,xKk),
(134,xEt),
(135,yXl),
(136,xKj),
(137,⟨[],[0,1,2,3,4,5,6,7,8],[],[],[(3,(3,0)),(4,(4,0)),(5,(5,0)),(7,(7,0)),(8,(8,0))],[12],[],[3,4,5,7,8]⟩),
(138,⟨[],[0,1,2,3,4,5,6,7,8,9],[],[],[(4,(4,0)),(5,(5,0)),(6,(6,0)),(7,(7,0)),(9,(9,0))],[],[],[4,5,6,7,9]⟩),
(139,⟨[],[0,1,4,5,6,7,12,19,29],[(5,[0,1,5,6])],[],[(7,(7,0))],[],[],[]⟩),
(140,⟨[],[0,1,2,3],[],[],[(2,(2,0)),(6,(2,1))],[],[],[]⟩),
(141,xKi),
(142,xKh),
(143,xKg),
(144,xKf),
(145,xKe),
(146,xEs),
(148,xKd),
(149,xKc),
(150,xKb),
(151,xKa),
(153,xJz),
(158,xJy),
(159,xJx),
(160,xJw),
(161,xJv),
(162,xJu),
(163,xJt),
(164,yHi),
(165,xJs),
(166,xJr),
(167,⟨[],[0,2,4],[],[],[],[],[],[]⟩),
(100167,zUr),
(168,xJq),
(169,⟨[],[0,2,4],[],[],[],[],[],[]⟩),
(100169,zUq),
(170,xJp),
(171,xJo),
(174,xJn),
(175,xJm),
(176,xJl),
(177,xJk),
(178,xJj),
(179,xEr),
(180,xJi),
(182,xJh),
(183,xJg),
(184,⟨[],[0,1,2,4,5,6,7,8,9,10,23],[(2,[0,2,7,8,9])],[],[],[],[],[]⟩),
(185,xJf),
(186,⟨[],[0,1,3],[],[],[],[],[],[]⟩),
(187,xJe),
(188,⟨[],[0,1,2],[],[],[(1,(1,0)),(3,(1,0))],[],[],[]⟩),
(189,⟨[],[0,1,2,3,4,5,6,7,8,9,11,19],[],[],[(6,(6,0)),(32,(6,1))],[],[],[]⟩),
(190,xJd),
(191,⟨[],[0,2,3,5,6,7,8,9],[(3,[3,6,7,8])],[],[(5,(5,0))],[],[],[]⟩),
(192,⟨[],[0,2,3,4,5,17,24],[(2,[4])],[],[],[26],[],[]⟩),
(193,⟨[3,5,7],[0,1,2,3,5,6,7,9,10,12,13,14,26],[(1000004,[3,5,7])],[],[],[],[],[]⟩),
(194,⟨[4,5],[0,1,2,4,5,6],[],[],[],[],[],[]⟩),
(195,⟨[],[0,1,2,3,5,6],[],[],[(6,(6,0)),(11,(6,0))],[],[],[]⟩),
(196,⟨[],[0,1,2,3,4,5,6,7,11,23],[],[],[(5,(5,0)),(25,(5,1))],[],[(35,1)],[]⟩),
(197,⟨[3],[0,1,3,4],[],[],[],[],[],[]⟩),
(198,⟨[],[0,1,2],[],[],[(1,(1,0))],[],[],[]⟩),
(199,⟨[],[0,1],[],[],[],[],[],[]⟩),
(200,⟨[],[0,1,2,3,4,5],[],[],[(3,(3,0)),(4,(4,0)),(6,(3,1)),(11,(4,1))],[],[],[]⟩),
(201,⟨[],[0,1,4,5,7,8,9,16],[(2,[0,1,7,8])],[],[],[],[],[]⟩),
(202,xJc),
(203,xJb),
(204,xJa),
(210,xIz),
(216,xIy),
(235,xIx),
(236,xIw),
(237,xIv),
(238,xIu),
(239,xIt),
(240,xIs),
(241,xIr),
(242,xIq),
(243,xEq),
(244,xIp),
(245,xIo),
(246,xIn),
(248,xIm),
(249,xIl),
(250,xIk),
(252,xIj),
(253,xIi),
(254,xIh),
(255,xIg),
(256,xIf),
(257,⟨[],[0,1,2,3,4,5,6],[],[],[(3,(3,0)),(4,(4,0)),(5,(5,0))],[],[],[3,4,5]⟩),
(258,⟨[],[0,1,2,6,7,8,9,13,30,35,54],[(2,[0,1,2,6,7,8]),(7,[0,1,2,6]),(9,[0,1,2,6,7,8])],[],[],[],[],[]⟩),
(259,xIe),
(262,xId),
(263,xIc),
(281,xIb),
(282,xIa),
(283,xHz),
(284,xHy),
(285,⟨[],[0,1,2,3,6,13,14,15,16,25],[(1,[0,13,14,15])],[],[(6,(6,0)),(20,(6,0)),(22,(6,1))],[13],[],[]⟩),
(286,⟨[],[0,1,2,3,8,9,11,26,31,67],[(4,[0,1,2,3,9])],[],[],[],[],[]⟩),
(287,⟨[],[0,1,2,3,8,9,14,34],[(1,[0,1,2,3,8]),(4,[0,1,2,3,8,9])],[],[],[32],[],[]⟩),
(289,xHx)]
def clL :List Nat:=[4,9,10,12,13,14,15,16,17,18,26,27,28,29,30,34,35,36,37,40,41,43,56,57,58,59,60,61,62,64,70,71,72,74,75,76,77,80,86,87,97,98,99,100,101,102,103,104,105,106,107,108,109,110,114,117,118,119,120,121,122,124,125,126,127,128,129,130,131,132,133,136,137,138,142,143,150,158,159,160,161,162,163,164,165,174,175,176,177,178,179,183,188,189,191,192,193,194,196,197,198,203,235,236,237,238,239,240,241,242,243,244,250,256,263,281,282,283,284,289]
noncomputable def TT :Nat->Option Fx:=mkT Tryz.prog xSk clL
theorem yYo :yBu Tryz.prog (pfT TT) xSk=true:=by kernel_rfl
noncomputable def XG (G:Nat->Option (List D)):Ctx:={ P:=Tryz.prog,G:=G,pf:=pfT TT,pr:=prX }
@[go_sem] theorem xZc (G:Nat->Option (List D)):(XG G).P=Tryz.prog:=rfl
@[go_sem] theorem xZd (G:Nat->Option (List D)):(XG G).G=G:=rfl
theorem yHx (G:Nat->Option (List D)) (hG:zHu (XG G)):zOv (XG G) TT:=yAz (X:=XG G) hG rfl (yZh rfl rfl) yYo
def owR (o:Option D) (m:Mem):Option (D×Mem):=match o with|some v=>some (v,m)|none=>none
@[go_sem] theorem xFq (v:D) (m:Mem):owR (some v) m=some (v,m):=rfl
section
variable {G:Nat->Option (List D)} {m:Mem} {l:List D}
theorem ow {g:Nat} (h:pfT TT g=true) (hy:Nat.ble qQ g=false):zG (XG G) TT g m l=owR (zA (XG G) TT g (zH l)) m:=zGi h hy m l
theorem T4 :TT 4=some ⟨F4,27,[.tmp 4],(Tryz.f4.body).getD .skip,true⟩:=by kernel_rfl
@[go_sem] theorem pf4 :pfT TT 4=true:=by kernel_rfl
theorem T9 :TT 9=some ⟨F9,29,[.cell 4 52,.tmp 5],(Tryz.f9.body).getD .skip,true⟩:=by kernel_rfl
@[go_sem] theorem pf9 :pfT TT 9=true:=by kernel_rfl
@[go_sem] theorem o9 :zG (XG G) TT 9 m l=owR (zA (XG G) TT 9 (zH l)) m:=ow pf9 rfl
@[go_sem] theorem xUs :pfT TT 10=true:=by kernel_rfl
@[go_sem] theorem o10 :zG (XG G) TT 10 m l=owR (zA (XG G) TT 10 (zH l)) m:=ow xUs rfl
theorem T12 :TT 12=some ⟨F12,53,[.tmp 4],(Tryz.f12.body).getD .skip,true⟩:=by kernel_rfl
@[go_sem] theorem xUr :pfT TT 12=true:=by kernel_rfl
@[go_sem] theorem o12 :zG (XG G) TT 12 m l=owR (zA (XG G) TT 12 (zH l)) m:=ow xUr rfl
theorem T13 :TT 13=some ⟨F13,18,[.tmp 2],(Tryz.f13.body).getD .skip,true⟩:=by kernel_rfl
@[go_sem] theorem xUq :pfT TT 13=true:=by kernel_rfl
@[go_sem] theorem o13 :zG (XG G) TT 13 m l=owR (zA (XG G) TT 13 (zH l)) m:=ow xUq rfl
theorem T15 :TT 15=some ⟨F15,35,[.tmp 4],(Tryz.f15.body).getD .skip,true⟩:=by kernel_rfl
@[go_sem] theorem xUp :pfT TT 15=true:=by kernel_rfl
@[go_sem] theorem o15 :zG (XG G) TT 15 m l=owR (zA (XG G) TT 15 (zH l)) m:=ow xUp rfl
theorem T16 :TT 16=some ⟨F16,79,[.tmp 4],(Tryz.f16.body).getD .skip,true⟩:=by kernel_rfl
@[go_sem] theorem xUo :pfT TT 16=true:=by kernel_rfl
@[go_sem] theorem o16 :zG (XG G) TT 16 m l=owR (zA (XG G) TT 16 (zH l)) m:=ow xUo rfl
theorem T19 :TT 19=some ⟨F19,35,[.tmp 4],(Tryz.f19.body).getD .skip,false⟩:=by kernel_rfl
theorem T26 :TT 26=some ⟨F26,135,[.cell 2 52,.tmp 3],(Tryz.f26.body).getD .skip,true⟩:=by kernel_rfl
@[go_sem] theorem xUn :pfT TT 26=true:=by kernel_rfl
@[go_sem] theorem o26 :zG (XG G) TT 26 m l=owR (zA (XG G) TT 26 (zH l)) m:=ow xUn rfl
theorem T27 :TT 27=some ⟨F27,65,[.tmp 6],(Tryz.f27.body).getD .skip,true⟩:=by kernel_rfl
@[go_sem] theorem xUm :pfT TT 27=true:=by kernel_rfl
@[go_sem] theorem o27 :zG (XG G) TT 27 m l=owR (zA (XG G) TT 27 (zH l)) m:=ow xUm rfl
theorem T28 :TT 28=some ⟨F28,39,[.tmp 4],(Tryz.f28.body).getD .skip,true⟩:=by kernel_rfl
@[go_sem] theorem xUl :pfT TT 28=true:=by kernel_rfl
@[go_sem] theorem o28 :zG (XG G) TT 28 m l=owR (zA (XG G) TT 28 (zH l)) m:=ow xUl rfl
theorem T34 :TT 34=some ⟨F34,43,[.tmp 4],(Tryz.f34.body).getD .skip,true⟩:=by kernel_rfl
@[go_sem] theorem xUk :pfT TT 34=true:=by kernel_rfl
@[go_sem] theorem o34 :zG (XG G) TT 34 m l=owR (zA (XG G) TT 34 (zH l)) m:=ow xUk rfl
theorem T35 :TT 35=some ⟨F35,50,[.tmp 8],(Tryz.f35.body).getD .skip,true⟩:=by kernel_rfl
@[go_sem] theorem xUj :pfT TT 35=true:=by kernel_rfl
@[go_sem] theorem o35 :zG (XG G) TT 35 m l=owR (zA (XG G) TT 35 (zH l)) m:=ow xUj rfl
theorem T36 :TT 36=some ⟨F36,14,[.tmp 4],(Tryz.f36.body).getD .skip,true⟩:=by kernel_rfl
@[go_sem] theorem xUi :pfT TT 36=true:=by kernel_rfl
@[go_sem] theorem o36 :zG (XG G) TT 36 m l=owR (zA (XG G) TT 36 (zH l)) m:=ow xUi rfl
theorem T37 :TT 37=some ⟨F37,45,[.cell 4 111,.tmp 5],(Tryz.f37.body).getD .skip,true⟩:=by kernel_rfl
@[go_sem] theorem xUh :pfT TT 37=true:=by kernel_rfl
@[go_sem] theorem o37 :zG (XG G) TT 37 m l=owR (zA (XG G) TT 37 (zH l)) m:=ow xUh rfl
theorem T38 :TT 38=some ⟨F38,25,[.tmp 8],(Tryz.f38.body).getD .skip,false⟩:=by kernel_rfl
@[go_sem] theorem xWo :pfT TT 38=false:=by kernel_rfl
theorem T39 :TT 39=some ⟨F39,23,[.tmp 4],(Tryz.f39.body).getD .skip,false⟩:=by kernel_rfl
@[go_sem] theorem xWn :pfT TT 39=false:=by kernel_rfl
theorem T40 :TT 40=some ⟨F40,5,[.tmp 2],(Tryz.f40.body).getD .skip,true⟩:=by kernel_rfl
@[go_sem] theorem xUg :pfT TT 40=true:=by kernel_rfl
@[go_sem] theorem o40 :zG (XG G) TT 40 m l=owR (zA (XG G) TT 40 (zH l)) m:=ow xUg rfl
theorem T41 :TT 41=some ⟨F41,14,[.tmp 4],(Tryz.f41.body).getD .skip,true⟩:=by kernel_rfl
@[go_sem] theorem xUf :pfT TT 41=true:=by kernel_rfl
@[go_sem] theorem o41 :zG (XG G) TT 41 m l=owR (zA (XG G) TT 41 (zH l)) m:=ow xUf rfl
theorem T42 :TT 42=some ⟨F42,9,[],(Tryz.f42.body).getD .skip,false⟩:=by kernel_rfl
theorem T43 :TT 43=some ⟨F43,8,[.tmp 4],(Tryz.f43.body).getD .skip,true⟩:=by kernel_rfl
@[go_sem] theorem xUe :pfT TT 43=true:=by kernel_rfl
@[go_sem] theorem o43 :zG (XG G) TT 43 m l=owR (zA (XG G) TT 43 (zH l)) m:=ow xUe rfl
theorem T46 :TT 46=some ⟨F46,82,[.tmp 4],(Tryz.f46.body).getD .skip,false⟩:=by kernel_rfl
theorem T47 :TT 47=some ⟨F47,42,[.tmp 4,.tmp 5],(Tryz.f47.body).getD .skip,false⟩:=by kernel_rfl
theorem T48 :TT 48=some ⟨F48,64,[.tmp 6],(Tryz.f48.body).getD .skip,false⟩:=by kernel_rfl
theorem T56 :TT 56=some ⟨F56,74,[.tmp 2],(Tryz.f56.body).getD .skip,true⟩:=by kernel_rfl
@[go_sem] theorem xUd :pfT TT 56=true:=by kernel_rfl
@[go_sem] theorem o56 :zG (XG G) TT 56 m l=owR (zA (XG G) TT 56 (zH l)) m:=ow xUd rfl
theorem T57 :TT 57=some ⟨F57,116,[.tmp 2],(Tryz.f57.body).getD .skip,true⟩:=by kernel_rfl
@[go_sem] theorem xUc :pfT TT 57=true:=by kernel_rfl
@[go_sem] theorem o57 :zG (XG G) TT 57 m l=owR (zA (XG G) TT 57 (zH l)) m:=ow xUc rfl
theorem T58 :TT 58=some ⟨F58,37,[.tmp 4],(Tryz.f58.body).getD .skip,true⟩:=by kernel_rfl
@[go_sem] theorem xUb :pfT TT 58=true:=by kernel_rfl
@[go_sem] theorem o58 :zG (XG G) TT 58 m l=owR (zA (XG G) TT 58 (zH l)) m:=ow xUb rfl
theorem T59 :TT 59=some ⟨F59,34,[.tmp 2],(Tryz.f59.body).getD .skip,true⟩:=by kernel_rfl
@[go_sem] theorem xUa :pfT TT 59=true:=by kernel_rfl
@[go_sem] theorem o59 :zG (XG G) TT 59 m l=owR (zA (XG G) TT 59 (zH l)) m:=ow xUa rfl
theorem T60 :TT 60=some ⟨F60,40,[.tmp 8],(Tryz.f60.body).getD .skip,true⟩:=by kernel_rfl
@[go_sem] theorem xTz :pfT TT 60=true:=by kernel_rfl
@[go_sem] theorem o60 :zG (XG G) TT 60 m l=owR (zA (XG G) TT 60 (zH l)) m:=ow xTz rfl
theorem T61 :TT 61=some ⟨F61,26,[.tmp 6],(Tryz.f61.body).getD .skip,true⟩:=by kernel_rfl
@[go_sem] theorem xTy :pfT TT 61=true:=by kernel_rfl
@[go_sem] theorem o61 :zG (XG G) TT 61 m l=owR (zA (XG G) TT 61 (zH l)) m:=ow xTy rfl
theorem T62 :TT 62=some ⟨F62,75,[.tmp 4],(Tryz.f62.body).getD .skip,true⟩:=by kernel_rfl
@[go_sem] theorem xTx :pfT TT 62=true:=by kernel_rfl
@[go_sem] theorem o62 :zG (XG G) TT 62 m l=owR (zA (XG G) TT 62 (zH l)) m:=ow xTx rfl
theorem T63 :TT 63=some ⟨F63,32,[.tmp 2],(Tryz.f63.body).getD .skip,false⟩:=by kernel_rfl
theorem T70 :TT 70=some ⟨F70,36,[.tmp 4],(Tryz.f70.body).getD .skip,true⟩:=by kernel_rfl
@[go_sem] theorem xTw :pfT TT 70=true:=by kernel_rfl
@[go_sem] theorem o70 :zG (XG G) TT 70 m l=owR (zA (XG G) TT 70 (zH l)) m:=ow xTw rfl
theorem T71 :TT 71=some ⟨F71,135,[.tmp 4],(Tryz.f71.body).getD .skip,true⟩:=by kernel_rfl
@[go_sem] theorem xTv :pfT TT 71=true:=by kernel_rfl
@[go_sem] theorem o71 :zG (XG G) TT 71 m l=owR (zA (XG G) TT 71 (zH l)) m:=ow xTv rfl
theorem T200072 :TT 200072=some ⟨zUp,26,[.cell 10 115],(Tryz.f72.body).getD .skip,false⟩:=by kernel_rfl
@[go_sem] theorem xFp :pfT TT 200072=false:=by kernel_rfl
theorem T73 :TT 73=some ⟨F73,4,[.tmp 2],(Tryz.f73.body).getD .skip,false⟩:=by kernel_rfl
theorem T74 :TT 74=some ⟨F74,4,[.tmp 1],(Tryz.f74.body).getD .skip,true⟩:=by kernel_rfl
@[go_sem] theorem xTu :pfT TT 74=true:=by kernel_rfl
@[go_sem] theorem o74 :zG (XG G) TT 74 m l=owR (zA (XG G) TT 74 (zH l)) m:=ow xTu rfl
theorem T75 :TT 75=some ⟨F75,25,[.tmp 4],(Tryz.f75.body).getD .skip,true⟩:=by kernel_rfl
@[go_sem] theorem xTt :pfT TT 75=true:=by kernel_rfl
@[go_sem] theorem o75 :zG (XG G) TT 75 m l=owR (zA (XG G) TT 75 (zH l)) m:=ow xTt rfl
theorem T76 :TT 76=some ⟨F76,3,[.tmp 2],(Tryz.f76.body).getD .skip,true⟩:=by kernel_rfl
@[go_sem] theorem xTs :pfT TT 76=true:=by kernel_rfl
@[go_sem] theorem o76 :zG (XG G) TT 76 m l=owR (zA (XG G) TT 76 (zH l)) m:=ow xTs rfl
theorem T77 :TT 77=some ⟨F77,102,[.tmp 4],(Tryz.f77.body).getD .skip,true⟩:=by kernel_rfl
@[go_sem] theorem xTr :pfT TT 77=true:=by kernel_rfl
@[go_sem] theorem o77 :zG (XG G) TT 77 m l=owR (zA (XG G) TT 77 (zH l)) m:=ow xTr rfl
theorem T78 :TT 78=some ⟨F78,63,[],(Tryz.f78.body).getD .skip,false⟩:=by kernel_rfl
theorem T79 :TT 79=some ⟨F79,39,[.tmp 6],(Tryz.f79.body).getD .skip,false⟩:=by kernel_rfl
theorem T80 :TT 80=some ⟨F80,22,[.tmp 4],(Tryz.f80.body).getD .skip,true⟩:=by kernel_rfl
@[go_sem] theorem xTq :pfT TT 80=true:=by kernel_rfl
@[go_sem] theorem o80 :zG (XG G) TT 80 m l=owR (zA (XG G) TT 80 (zH l)) m:=ow xTq rfl
theorem T82 :TT 82=some ⟨F82,24,[.tmp 6],(Tryz.f82.body).getD .skip,false⟩:=by kernel_rfl
theorem T83 :TT 83=some ⟨F83,20,[.tmp 4,.tmp 5],(Tryz.f83.body).getD .skip,false⟩:=by kernel_rfl
theorem T84 :TT 84=some ⟨F84,57,[.tmp 4,.tmp 5],(Tryz.f84.body).getD .skip,false⟩:=by kernel_rfl
theorem T86 :TT 86=some ⟨F86,33,[.tmp 4],(Tryz.f86.body).getD .skip,true⟩:=by kernel_rfl
@[go_sem] theorem xTp :pfT TT 86=true:=by kernel_rfl
@[go_sem] theorem o86 :zG (XG G) TT 86 m l=owR (zA (XG G) TT 86 (zH l)) m:=ow xTp rfl
theorem T87 :TT 87=some ⟨F87,27,[.tmp 2],(Tryz.f87.body).getD .skip,true⟩:=by kernel_rfl
@[go_sem] theorem xTo :pfT TT 87=true:=by kernel_rfl
@[go_sem] theorem o87 :zG (XG G) TT 87 m l=owR (zA (XG G) TT 87 (zH l)) m:=ow xTo rfl
theorem T88 :TT 88=some ⟨F88,17,[.tmp 4],(Tryz.f88.body).getD .skip,false⟩:=by kernel_rfl
theorem T89 :TT 89=some ⟨F89,8,[.tmp 2],(Tryz.f89.body).getD .skip,false⟩:=by kernel_rfl
@[go_sem] theorem xWm :pfT TT 89=false:=by kernel_rfl
theorem T100089 :TT 100089=some ⟨zUs,8,[.tmp 2],(Tryz.f89.body).getD .skip,false⟩:=by kernel_rfl
theorem T90 :TT 90=some ⟨F90,61,[.tmp 6,.tmp 7],(Tryz.f90.body).getD .skip,false⟩:=by kernel_rfl
theorem T91 :TT 91=some ⟨F91,61,[.tmp 6,.tmp 7],(Tryz.f91.body).getD .skip,false⟩:=by kernel_rfl
@[go_sem] theorem xWl :pfT TT 91=false:=by kernel_rfl
theorem T97 :TT 97=some ⟨F97,20,[.tmp 4],(Tryz.f97.body).getD .skip,true⟩:=by kernel_rfl
@[go_sem] theorem xTn :pfT TT 97=true:=by kernel_rfl
@[go_sem] theorem o97 :zG (XG G) TT 97 m l=owR (zA (XG G) TT 97 (zH l)) m:=ow xTn rfl
theorem T98 :TT 98=some ⟨F98,132,[.tmp 2],(Tryz.f98.body).getD .skip,true⟩:=by kernel_rfl
@[go_sem] theorem xTm :pfT TT 98=true:=by kernel_rfl
@[go_sem] theorem o98 :zG (XG G) TT 98 m l=owR (zA (XG G) TT 98 (zH l)) m:=ow xTm rfl
theorem T99 :TT 99=some ⟨F99,25,[.tmp 4],(Tryz.f99.body).getD .skip,true⟩:=by kernel_rfl
@[go_sem] theorem xTl :pfT TT 99=true:=by kernel_rfl
@[go_sem] theorem o99 :zG (XG G) TT 99 m l=owR (zA (XG G) TT 99 (zH l)) m:=ow xTl rfl
theorem T100 :TT 100=some ⟨xLk,27,[.tmp 4],(Tryz.f100.body).getD .skip,true⟩:=by kernel_rfl
@[go_sem] theorem xOl :pfT TT 100=true:=by kernel_rfl
@[go_sem] theorem xZa :zG (XG G) TT 100 m l=owR (zA (XG G) TT 100 (zH l)) m:=ow xOl rfl
theorem T101 :TT 101=some ⟨xLj,87,[.cell 4 48],(Tryz.f101.body).getD .skip,true⟩:=by kernel_rfl
@[go_sem] theorem xOk :pfT TT 101=true:=by kernel_rfl
@[go_sem] theorem xYz :zG (XG G) TT 101 m l=owR (zA (XG G) TT 101 (zH l)) m:=ow xOk rfl
theorem T102 :TT 102=some ⟨xLi,91,[.tmp 2,.tmp 3,.tmp 4],(Tryz.f102.body).getD .skip,true⟩:=by kernel_rfl
@[go_sem] theorem xOj :pfT TT 102=true:=by kernel_rfl
@[go_sem] theorem xYy :zG (XG G) TT 102 m l=owR (zA (XG G) TT 102 (zH l)) m:=ow xOj rfl
theorem T103 :TT 103=some ⟨xEv,45,[.tmp 4],(Tryz.f103.body).getD .skip,true⟩:=by kernel_rfl
@[go_sem] theorem xOi :pfT TT 103=true:=by kernel_rfl
@[go_sem] theorem xYx :zG (XG G) TT 103 m l=owR (zA (XG G) TT 103 (zH l)) m:=ow xOi rfl
theorem T104 :TT 104=some ⟨xLh,18,[.tmp 4],(Tryz.f104.body).getD .skip,true⟩:=by kernel_rfl
@[go_sem] theorem xOh :pfT TT 104=true:=by kernel_rfl
@[go_sem] theorem xYw :zG (XG G) TT 104 m l=owR (zA (XG G) TT 104 (zH l)) m:=ow xOh rfl
theorem T105 :TT 105=some ⟨xLg,40,[.tmp 6],(Tryz.f105.body).getD .skip,true⟩:=by kernel_rfl
@[go_sem] theorem xOg :pfT TT 105=true:=by kernel_rfl
@[go_sem] theorem xYv :zG (XG G) TT 105 m l=owR (zA (XG G) TT 105 (zH l)) m:=ow xOg rfl
theorem T106 :TT 106=some ⟨xLf,25,[.tmp 2],(Tryz.f106.body).getD .skip,true⟩:=by kernel_rfl
@[go_sem] theorem xOf :pfT TT 106=true:=by kernel_rfl
@[go_sem] theorem xYu :zG (XG G) TT 106 m l=owR (zA (XG G) TT 106 (zH l)) m:=ow xOf rfl
theorem T107 :TT 107=some ⟨xLe,18,[.tmp 6],(Tryz.f107.body).getD .skip,true⟩:=by kernel_rfl
@[go_sem] theorem xOe :pfT TT 107=true:=by kernel_rfl
@[go_sem] theorem xYt :zG (XG G) TT 107 m l=owR (zA (XG G) TT 107 (zH l)) m:=ow xOe rfl
theorem T108 :TT 108=some ⟨xLd,31,[.tmp 4],(Tryz.f108.body).getD .skip,true⟩:=by kernel_rfl
@[go_sem] theorem xOd :pfT TT 108=true:=by kernel_rfl
@[go_sem] theorem xYs :zG (XG G) TT 108 m l=owR (zA (XG G) TT 108 (zH l)) m:=ow xOd rfl
theorem T109 :TT 109=some ⟨xLc,68,[.tmp 2],(Tryz.f109.body).getD .skip,true⟩:=by kernel_rfl
@[go_sem] theorem xOc :pfT TT 109=true:=by kernel_rfl
@[go_sem] theorem xYr :zG (XG G) TT 109 m l=owR (zA (XG G) TT 109 (zH l)) m:=ow xOc rfl
theorem T110 :TT 110=some ⟨xLb,69,[.tmp 2],(Tryz.f110.body).getD .skip,true⟩:=by kernel_rfl
@[go_sem] theorem xOb :pfT TT 110=true:=by kernel_rfl
@[go_sem] theorem xYq :zG (XG G) TT 110 m l=owR (zA (XG G) TT 110 (zH l)) m:=ow xOb rfl
theorem T111 :TT 111=some ⟨xLa,38,[.tmp 2],(Tryz.f111.body).getD .skip,false⟩:=by kernel_rfl
@[go_sem] theorem xWa :pfT TT 111=false:=by kernel_rfl
theorem T114 :TT 114=some ⟨xKz,27,[.tmp 6],(Tryz.f114.body).getD .skip,true⟩:=by kernel_rfl
@[go_sem] theorem xOa :pfT TT 114=true:=by kernel_rfl
@[go_sem] theorem xYp :zG (XG G) TT 114 m l=owR (zA (XG G) TT 114 (zH l)) m:=ow xOa rfl
theorem T117 :TT 117=some ⟨xKy,30,[.tmp 4],(Tryz.f117.body).getD .skip,true⟩:=by kernel_rfl
@[go_sem] theorem xNz :pfT TT 117=true:=by kernel_rfl
@[go_sem] theorem xYo :zG (XG G) TT 117 m l=owR (zA (XG G) TT 117 (zH l)) m:=ow xNz rfl
theorem T118 :TT 118=some ⟨xKx,11,[.tmp 4],(Tryz.f118.body).getD .skip,true⟩:=by kernel_rfl
@[go_sem] theorem xNy :pfT TT 118=true:=by kernel_rfl
@[go_sem] theorem xYn :zG (XG G) TT 118 m l=owR (zA (XG G) TT 118 (zH l)) m:=ow xNy rfl
theorem T119 :TT 119=some ⟨xKw,4,[.tmp 2],(Tryz.f119.body).getD .skip,true⟩:=by kernel_rfl
@[go_sem] theorem xNx :pfT TT 119=true:=by kernel_rfl
@[go_sem] theorem xYm :zG (XG G) TT 119 m l=owR (zA (XG G) TT 119 (zH l)) m:=ow xNx rfl
theorem T120 :TT 120=some ⟨yXm,100,[.cell 4 27],(Tryz.f120.body).getD .skip,true⟩:=by kernel_rfl
@[go_sem] theorem xNw :pfT TT 120=true:=by kernel_rfl
@[go_sem] theorem xYl :zG (XG G) TT 120 m l=owR (zA (XG G) TT 120 (zH l)) m:=ow xNw rfl
theorem T121 :TT 121=some ⟨xKv,29,[.tmp 4],(Tryz.f121.body).getD .skip,true⟩:=by kernel_rfl
@[go_sem] theorem xNv :pfT TT 121=true:=by kernel_rfl
@[go_sem] theorem xYk :zG (XG G) TT 121 m l=owR (zA (XG G) TT 121 (zH l)) m:=ow xNv rfl
theorem T122 :TT 122=some ⟨xKu,85,[.tmp 4],(Tryz.f122.body).getD .skip,true⟩:=by kernel_rfl
@[go_sem] theorem xNu :pfT TT 122=true:=by kernel_rfl
@[go_sem] theorem xYj :zG (XG G) TT 122 m l=owR (zA (XG G) TT 122 (zH l)) m:=ow xNu rfl
theorem T123 :TT 123=some ⟨xKt,21,[],(Tryz.f123.body).getD .skip,false⟩:=by kernel_rfl
theorem T124 :TT 124=some ⟨xKs,5,[.tmp 2],(Tryz.f124.body).getD .skip,true⟩:=by kernel_rfl
@[go_sem] theorem xNt :pfT TT 124=true:=by kernel_rfl
@[go_sem] theorem xYi :zG (XG G) TT 124 m l=owR (zA (XG G) TT 124 (zH l)) m:=ow xNt rfl
theorem T125 :TT 125=some ⟨xKr,12,[.tmp 4],(Tryz.f125.body).getD .skip,true⟩:=by kernel_rfl
@[go_sem] theorem xNs :pfT TT 125=true:=by kernel_rfl
@[go_sem] theorem xYh :zG (XG G) TT 125 m l=owR (zA (XG G) TT 125 (zH l)) m:=ow xNs rfl
theorem T126 :TT 126=some ⟨xKq,12,[.tmp 4],(Tryz.f126.body).getD .skip,true⟩:=by kernel_rfl
@[go_sem] theorem xNr :pfT TT 126=true:=by kernel_rfl
@[go_sem] theorem xYg :zG (XG G) TT 126 m l=owR (zA (XG G) TT 126 (zH l)) m:=ow xNr rfl
theorem T127 :TT 127=some ⟨xKp,8,[.tmp 2],(Tryz.f127.body).getD .skip,true⟩:=by kernel_rfl
@[go_sem] theorem xNq :pfT TT 127=true:=by kernel_rfl
@[go_sem] theorem xYf :zG (XG G) TT 127 m l=owR (zA (XG G) TT 127 (zH l)) m:=ow xNq rfl
theorem T128 :TT 128=some ⟨xEu,46,[.cell 4 27],(Tryz.f128.body).getD .skip,true⟩:=by kernel_rfl
@[go_sem] theorem xNp :pfT TT 128=true:=by kernel_rfl
@[go_sem] theorem xYe :zG (XG G) TT 128 m l=owR (zA (XG G) TT 128 (zH l)) m:=ow xNp rfl
theorem T129 :TT 129=some ⟨xKo,4,[.tmp 2],(Tryz.f129.body).getD .skip,true⟩:=by kernel_rfl
@[go_sem] theorem xNo :pfT TT 129=true:=by kernel_rfl
@[go_sem] theorem xYd :zG (XG G) TT 129 m l=owR (zA (XG G) TT 129 (zH l)) m:=ow xNo rfl
theorem T130 :TT 130=some ⟨xKn,66,[.tmp 4],(Tryz.f130.body).getD .skip,true⟩:=by kernel_rfl
@[go_sem] theorem xNn :pfT TT 130=true:=by kernel_rfl
@[go_sem] theorem xYc :zG (XG G) TT 130 m l=owR (zA (XG G) TT 130 (zH l)) m:=ow xNn rfl
theorem T131 :TT 131=some ⟨xKm,28,[.tmp 4],(Tryz.f131.body).getD .skip,true⟩:=by kernel_rfl
@[go_sem] theorem xNm :pfT TT 131=true:=by kernel_rfl
@[go_sem] theorem xYb :zG (XG G) TT 131 m l=owR (zA (XG G) TT 131 (zH l)) m:=ow xNm rfl
theorem T132 :TT 132=some ⟨xKl,18,[.tmp 2],(Tryz.f132.body).getD .skip,true⟩:=by kernel_rfl
@[go_sem] theorem xNl :pfT TT 132=true:=by kernel_rfl
@[go_sem] theorem xYa :zG (XG G) TT 132 m l=owR (zA (XG G) TT 132 (zH l)) m:=ow xNl rfl
theorem T133 :TT 133=some ⟨xKk,8,[.tmp 4],(Tryz.f133.body).getD .skip,true⟩:=by kernel_rfl
@[go_sem] theorem xNk :pfT TT 133=true:=by kernel_rfl
@[go_sem] theorem xXz :zG (XG G) TT 133 m l=owR (zA (XG G) TT 133 (zH l)) m:=ow xNk rfl
theorem T134 :TT 134=some ⟨xEt,53,[],(Tryz.f134.body).getD .skip,false⟩:=by kernel_rfl
theorem T135 :TT 135=some ⟨yXl,220,[],(Tryz.f135.body).getD .skip,false⟩:=by kernel_rfl
theorem T136 :TT 136=some ⟨xKj,20,[.tmp 4],(Tryz.f136.body).getD .skip,true⟩:=by kernel_rfl
@[go_sem] theorem xNj :pfT TT 136=true:=by kernel_rfl
@[go_sem] theorem xXy :zG (XG G) TT 136 m l=owR (zA (XG G) TT 136 (zH l)) m:=ow xNj rfl
theorem T141 :TT 141=some ⟨xKi,9,[.tmp 4],(Tryz.f141.body).getD .skip,false⟩:=by kernel_rfl
theorem T142 :TT 142=some ⟨xKh,6,[.tmp 2],(Tryz.f142.body).getD .skip,true⟩:=by kernel_rfl
@[go_sem] theorem xNi :pfT TT 142=true:=by kernel_rfl
theorem T143 :TT 143=some ⟨xKg,25,[.tmp 2],(Tryz.f143.body).getD .skip,true⟩:=by kernel_rfl
@[go_sem] theorem xNh :pfT TT 143=true:=by kernel_rfl
@[go_sem] theorem xXx :zG (XG G) TT 143 m l=owR (zA (XG G) TT 143 (zH l)) m:=ow xNh rfl
theorem T144 :TT 144=some ⟨xKf,38,[.tmp 4,.tmp 5],(Tryz.f144.body).getD .skip,false⟩:=by kernel_rfl
theorem T145 :TT 145=some ⟨xKe,136,[.tmp 6,.tmp 7],(Tryz.f145.body).getD .skip,false⟩:=by kernel_rfl
theorem T146 :TT 146=some ⟨xEs,9,[.tmp 2],(Tryz.f146.body).getD .skip,false⟩:=by kernel_rfl
theorem T148 :TT 148=some ⟨xKd,9,[.tmp 2],(Tryz.f148.body).getD .skip,false⟩:=by kernel_rfl
theorem T149 :TT 149=some ⟨xKc,49,[.tmp 4],(Tryz.f149.body).getD .skip,false⟩:=by kernel_rfl
theorem T150 :TT 150=some ⟨xKb,6,[.tmp 2],(Tryz.f150.body).getD .skip,true⟩:=by kernel_rfl
@[go_sem] theorem xNg :pfT TT 150=true:=by kernel_rfl
theorem T151 :TT 151=some ⟨xKa,106,[.tmp 8,.tmp 9],(Tryz.f151.body).getD .skip,false⟩:=by kernel_rfl
theorem T153 :TT 153=some ⟨xJz,106,[.tmp 8,.tmp 9],(Tryz.f153.body).getD .skip,false⟩:=by kernel_rfl
theorem T158 :TT 158=some ⟨xJy,6,[.tmp 2],(Tryz.f158.body).getD .skip,true⟩:=by kernel_rfl
@[go_sem] theorem xNf :pfT TT 158=true:=by kernel_rfl
@[go_sem] theorem xXw :zG (XG G) TT 158 m l=owR (zA (XG G) TT 158 (zH l)) m:=ow xNf rfl
theorem T159 :TT 159=some ⟨xJx,45,[.tmp 4],(Tryz.f159.body).getD .skip,true⟩:=by kernel_rfl
@[go_sem] theorem xNe :pfT TT 159=true:=by kernel_rfl
@[go_sem] theorem xXv :zG (XG G) TT 159 m l=owR (zA (XG G) TT 159 (zH l)) m:=ow xNe rfl
theorem T160 :TT 160=some ⟨xJw,26,[.tmp 4],(Tryz.f160.body).getD .skip,true⟩:=by kernel_rfl
@[go_sem] theorem xNd :pfT TT 160=true:=by kernel_rfl
@[go_sem] theorem xXu :zG (XG G) TT 160 m l=owR (zA (XG G) TT 160 (zH l)) m:=ow xNd rfl
theorem T161 :TT 161=some ⟨xJv,79,[.tmp 2],(Tryz.f161.body).getD .skip,true⟩:=by kernel_rfl
@[go_sem] theorem xNc :pfT TT 161=true:=by kernel_rfl
@[go_sem] theorem xXt :zG (XG G) TT 161 m l=owR (zA (XG G) TT 161 (zH l)) m:=ow xNc rfl
theorem T162 :TT 162=some ⟨xJu,84,[.tmp 4],(Tryz.f162.body).getD .skip,true⟩:=by kernel_rfl
@[go_sem] theorem xNb :pfT TT 162=true:=by kernel_rfl
@[go_sem] theorem xXs :zG (XG G) TT 162 m l=owR (zA (XG G) TT 162 (zH l)) m:=ow xNb rfl
theorem T163 :TT 163=some ⟨xJt,160,[.cell 4 98,.tmp 5],(Tryz.f163.body).getD .skip,true⟩:=by kernel_rfl
@[go_sem] theorem xNa :pfT TT 163=true:=by kernel_rfl
@[go_sem] theorem xXr :zG (XG G) TT 163 m l=owR (zA (XG G) TT 163 (zH l)) m:=ow xNa rfl
theorem T164 :TT 164=some ⟨yHi,153,[.tmp 4],(Tryz.f164.body).getD .skip,true⟩:=by kernel_rfl
@[go_sem] theorem xMz :pfT TT 164=true:=by kernel_rfl
@[go_sem] theorem xXq :zG (XG G) TT 164 m l=owR (zA (XG G) TT 164 (zH l)) m:=ow xMz rfl
theorem T165 :TT 165=some ⟨xJs,80,[.tmp 4],(Tryz.f165.body).getD .skip,true⟩:=by kernel_rfl
@[go_sem] theorem xMy :pfT TT 165=true:=by kernel_rfl
@[go_sem] theorem xXp :zG (XG G) TT 165 m l=owR (zA (XG G) TT 165 (zH l)) m:=ow xMy rfl
theorem T166 :TT 166=some ⟨xJr,8,[.tmp 2],(Tryz.f166.body).getD .skip,false⟩:=by kernel_rfl
theorem T100167 :TT 100167=some ⟨zUr,8,[.tmp 2],(Tryz.f167.body).getD .skip,false⟩:=by kernel_rfl
theorem T168 :TT 168=some ⟨xJq,8,[.tmp 2],(Tryz.f168.body).getD .skip,false⟩:=by kernel_rfl
@[go_sem] theorem xVz :pfT TT 168=false:=by kernel_rfl
theorem T100169 :TT 100169=some ⟨zUq,8,[.tmp 2],(Tryz.f169.body).getD .skip,false⟩:=by kernel_rfl
theorem T170 :TT 170=some ⟨xJp,10,[.tmp 2],(Tryz.f170.body).getD .skip,false⟩:=by kernel_rfl
@[go_sem] theorem xVy :pfT TT 170=false:=by kernel_rfl
theorem T171 :TT 171=some ⟨xJo,40,[],(Tryz.f171.body).getD .skip,false⟩:=by kernel_rfl
theorem T174 :TT 174=some ⟨xJn,39,[.tmp 4],(Tryz.f174.body).getD .skip,true⟩:=by kernel_rfl
@[go_sem] theorem xMx :pfT TT 174=true:=by kernel_rfl
@[go_sem] theorem xXo :zG (XG G) TT 174 m l=owR (zA (XG G) TT 174 (zH l)) m:=ow xMx rfl
theorem T175 :TT 175=some ⟨xJm,5,[.cell 2 27],(Tryz.f175.body).getD .skip,true⟩:=by kernel_rfl
@[go_sem] theorem xMw :pfT TT 175=true:=by kernel_rfl
@[go_sem] theorem xXn :zG (XG G) TT 175 m l=owR (zA (XG G) TT 175 (zH l)) m:=ow xMw rfl
theorem T176 :TT 176=some ⟨xJl,23,[.tmp 4],(Tryz.f176.body).getD .skip,true⟩:=by kernel_rfl
@[go_sem] theorem xMv :pfT TT 176=true:=by kernel_rfl
@[go_sem] theorem xXm :zG (XG G) TT 176 m l=owR (zA (XG G) TT 176 (zH l)) m:=ow xMv rfl
theorem T177 :TT 177=some ⟨xJk,8,[.tmp 6],(Tryz.f177.body).getD .skip,true⟩:=by kernel_rfl
@[go_sem] theorem xMu :pfT TT 177=true:=by kernel_rfl
@[go_sem] theorem xXl :zG (XG G) TT 177 m l=owR (zA (XG G) TT 177 (zH l)) m:=ow xMu rfl
theorem T178 :TT 178=some ⟨xJj,8,[.tmp 2],(Tryz.f178.body).getD .skip,true⟩:=by kernel_rfl
@[go_sem] theorem xMt :pfT TT 178=true:=by kernel_rfl
@[go_sem] theorem xXk :zG (XG G) TT 178 m l=owR (zA (XG G) TT 178 (zH l)) m:=ow xMt rfl
theorem T179 :TT 179=some ⟨xEr,55,[.tmp 4],(Tryz.f179.body).getD .skip,true⟩:=by kernel_rfl
@[go_sem] theorem xMs :pfT TT 179=true:=by kernel_rfl
@[go_sem] theorem xXj :zG (XG G) TT 179 m l=owR (zA (XG G) TT 179 (zH l)) m:=ow xMs rfl
theorem T180 :TT 180=some ⟨xJi,23,[],(Tryz.f180.body).getD .skip,false⟩:=by kernel_rfl
theorem T182 :TT 182=some ⟨xJh,58,[],(Tryz.f182.body).getD .skip,false⟩:=by kernel_rfl
theorem T183 :TT 183=some ⟨xJg,6,[.tmp 2],(Tryz.f183.body).getD .skip,true⟩:=by kernel_rfl
@[go_sem] theorem xMr :pfT TT 183=true:=by kernel_rfl
@[go_sem] theorem xXi :zG (XG G) TT 183 m l=owR (zA (XG G) TT 183 (zH l)) m:=ow xMr rfl
theorem T185 :TT 185=some ⟨xJf,9,[.tmp 4],(Tryz.f185.body).getD .skip,false⟩:=by kernel_rfl
theorem T187 :TT 187=some ⟨xJe,15,[.tmp 4],(Tryz.f187.body).getD .skip,false⟩:=by kernel_rfl
theorem T190 :TT 190=some ⟨xJd,23,[.cell 4 177,.tmp 5],(Tryz.f190.body).getD .skip,false⟩:=by kernel_rfl
theorem T202 :TT 202=some ⟨xJc,19,[.tmp 4],(Tryz.f202.body).getD .skip,false⟩:=by kernel_rfl
theorem T203 :TT 203=some ⟨xJb,23,[.tmp 2],(Tryz.f203.body).getD .skip,true⟩:=by kernel_rfl
@[go_sem] theorem xMq :pfT TT 203=true:=by kernel_rfl
@[go_sem] theorem xXh :zG (XG G) TT 203 m l=owR (zA (XG G) TT 203 (zH l)) m:=ow xMq rfl
theorem T204 :TT 204=some ⟨xJa,14,[.tmp 4,.tmp 5],(Tryz.f204.body).getD .skip,false⟩:=by kernel_rfl
theorem T210 :TT 210=some ⟨xIz,14,[.tmp 4,.tmp 5],(Tryz.f210.body).getD .skip,false⟩:=by kernel_rfl
theorem T216 :TT 216=some ⟨xIy,95,[.tmp 6],(Tryz.f216.body).getD .skip,false⟩:=by kernel_rfl
@[go_sem] theorem xVw :pfT TT 216=false:=by kernel_rfl
theorem T235 :TT 235=some ⟨xIx,63,[.tmp 2],(Tryz.f235.body).getD .skip,true⟩:=by kernel_rfl
@[go_sem] theorem xMp :pfT TT 235=true:=by kernel_rfl
@[go_sem] theorem xXg :zG (XG G) TT 235 m l=owR (zA (XG G) TT 235 (zH l)) m:=ow xMp rfl
theorem T236 :TT 236=some ⟨xIw,53,[.tmp 2],(Tryz.f236.body).getD .skip,true⟩:=by kernel_rfl
@[go_sem] theorem xMo :pfT TT 236=true:=by kernel_rfl
@[go_sem] theorem xXf :zG (XG G) TT 236 m l=owR (zA (XG G) TT 236 (zH l)) m:=ow xMo rfl
theorem T237 :TT 237=some ⟨xIv,21,[.tmp 4,.tmp 5],(Tryz.f237.body).getD .skip,true⟩:=by kernel_rfl
@[go_sem] theorem xMn :pfT TT 237=true:=by kernel_rfl
@[go_sem] theorem xXe :zG (XG G) TT 237 m l=owR (zA (XG G) TT 237 (zH l)) m:=ow xMn rfl
theorem T238 :TT 238=some ⟨xIu,25,[.tmp 2],(Tryz.f238.body).getD .skip,true⟩:=by kernel_rfl
@[go_sem] theorem xMm :pfT TT 238=true:=by kernel_rfl
@[go_sem] theorem xXd :zG (XG G) TT 238 m l=owR (zA (XG G) TT 238 (zH l)) m:=ow xMm rfl
theorem T239 :TT 239=some ⟨xIt,26,[.tmp 4],(Tryz.f239.body).getD .skip,true⟩:=by kernel_rfl
@[go_sem] theorem xMl :pfT TT 239=true:=by kernel_rfl
@[go_sem] theorem xXc :zG (XG G) TT 239 m l=owR (zA (XG G) TT 239 (zH l)) m:=ow xMl rfl
theorem T240 :TT 240=some ⟨xIs,32,[.tmp 4,.tmp 5],(Tryz.f240.body).getD .skip,true⟩:=by kernel_rfl
@[go_sem] theorem xMk :pfT TT 240=true:=by kernel_rfl
@[go_sem] theorem xXb :zG (XG G) TT 240 m l=owR (zA (XG G) TT 240 (zH l)) m:=ow xMk rfl
theorem T241 :TT 241=some ⟨xIr,26,[.tmp 4],(Tryz.f241.body).getD .skip,true⟩:=by kernel_rfl
@[go_sem] theorem xMj :pfT TT 241=true:=by kernel_rfl
@[go_sem] theorem xXa :zG (XG G) TT 241 m l=owR (zA (XG G) TT 241 (zH l)) m:=ow xMj rfl
theorem T242 :TT 242=some ⟨xIq,35,[.tmp 8],(Tryz.f242.body).getD .skip,true⟩:=by kernel_rfl
@[go_sem] theorem xMi :pfT TT 242=true:=by kernel_rfl
@[go_sem] theorem xWz :zG (XG G) TT 242 m l=owR (zA (XG G) TT 242 (zH l)) m:=ow xMi rfl
theorem T243 :TT 243=some ⟨xEq,53,[.tmp 4],(Tryz.f243.body).getD .skip,true⟩:=by kernel_rfl
@[go_sem] theorem xMh :pfT TT 243=true:=by kernel_rfl
@[go_sem] theorem xWy :zG (XG G) TT 243 m l=owR (zA (XG G) TT 243 (zH l)) m:=ow xMh rfl
theorem T244 :TT 244=some ⟨xIp,53,[.tmp 4],(Tryz.f244.body).getD .skip,true⟩:=by kernel_rfl
@[go_sem] theorem xMg :pfT TT 244=true:=by kernel_rfl
@[go_sem] theorem xWx :zG (XG G) TT 244 m l=owR (zA (XG G) TT 244 (zH l)) m:=ow xMg rfl
theorem T245 :TT 245=some ⟨xIo,8,[.tmp 3],(Tryz.f245.body).getD .skip,false⟩:=by kernel_rfl
theorem T246 :TT 246=some ⟨xIn,10,[.tmp 2],(Tryz.f246.body).getD .skip,false⟩:=by kernel_rfl
@[go_sem] theorem xVu :pfT TT 246=false:=by kernel_rfl
theorem T248 :TT 248=some ⟨xIm,27,[],(Tryz.f248.body).getD .skip,false⟩:=by kernel_rfl
theorem T249 :TT 249=some ⟨xIl,88,[.tmp 8],(Tryz.f249.body).getD .skip,false⟩:=by kernel_rfl
@[go_sem] theorem xVt :pfT TT 249=false:=by kernel_rfl
theorem T250 :TT 250=some ⟨xIk,16,[.tmp 4],(Tryz.f250.body).getD .skip,true⟩:=by kernel_rfl
@[go_sem] theorem xMf :pfT TT 250=true:=by kernel_rfl
@[go_sem] theorem xWw :zG (XG G) TT 250 m l=owR (zA (XG G) TT 250 (zH l)) m:=ow xMf rfl
theorem T252 :TT 252=some ⟨xIj,38,[],(Tryz.f252.body).getD .skip,false⟩:=by kernel_rfl
theorem T253 :TT 253=some ⟨xIi,19,[.tmp 4],(Tryz.f253.body).getD .skip,false⟩:=by kernel_rfl
theorem T254 :TT 254=some ⟨xIh,19,[.tmp 4],(Tryz.f254.body).getD .skip,false⟩:=by kernel_rfl
theorem T255 :TT 255=some ⟨xIg,8,[.tmp 3],(Tryz.f255.body).getD .skip,false⟩:=by kernel_rfl
theorem T256 :TT 256=some ⟨xIf,26,[.tmp 4],(Tryz.f256.body).getD .skip,true⟩:=by kernel_rfl
@[go_sem] theorem xMe :pfT TT 256=true:=by kernel_rfl
@[go_sem] theorem xWv :zG (XG G) TT 256 m l=owR (zA (XG G) TT 256 (zH l)) m:=ow xMe rfl
theorem T259 :TT 259=some ⟨xIe,49,[.tmp 6,.tmp 7],(Tryz.f259.body).getD .skip,false⟩:=by kernel_rfl
theorem T262 :TT 262=some ⟨xId,49,[.tmp 6,.tmp 7],(Tryz.f262.body).getD .skip,false⟩:=by kernel_rfl
theorem T263 :TT 263=some ⟨xIc,20,[.tmp 4],(Tryz.f263.body).getD .skip,true⟩:=by kernel_rfl
@[go_sem] theorem xMd :pfT TT 263=true:=by kernel_rfl
@[go_sem] theorem xWu :zG (XG G) TT 263 m l=owR (zA (XG G) TT 263 (zH l)) m:=ow xMd rfl
theorem T281 :TT 281=some ⟨xIb,24,[.tmp 4],(Tryz.f281.body).getD .skip,true⟩:=by kernel_rfl
@[go_sem] theorem xMc :pfT TT 281=true:=by kernel_rfl
@[go_sem] theorem xWt :zG (XG G) TT 281 m l=owR (zA (XG G) TT 281 (zH l)) m:=ow xMc rfl
theorem T282 :TT 282=some ⟨xIa,1,[.tmp 0],(Tryz.f282.body).getD .skip,true⟩:=by kernel_rfl
@[go_sem] theorem xMb :pfT TT 282=true:=by kernel_rfl
@[go_sem] theorem xWs :zG (XG G) TT 282 m l=owR (zA (XG G) TT 282 (zH l)) m:=ow xMb rfl
theorem T283 :TT 283=some ⟨xHz,23,[.tmp 4,.tmp 5],(Tryz.f283.body).getD .skip,true⟩:=by kernel_rfl
@[go_sem] theorem xMa :pfT TT 283=true:=by kernel_rfl
@[go_sem] theorem xWr :zG (XG G) TT 283 m l=owR (zA (XG G) TT 283 (zH l)) m:=ow xMa rfl
theorem T284 :TT 284=some ⟨xHy,20,[.tmp 2],(Tryz.f284.body).getD .skip,true⟩:=by kernel_rfl
@[go_sem] theorem xLz :pfT TT 284=true:=by kernel_rfl
@[go_sem] theorem xWq :zG (XG G) TT 284 m l=owR (zA (XG G) TT 284 (zH l)) m:=ow xLz rfl
theorem T289 :TT 289=some ⟨xHx,6,[.tmp 2],(Tryz.f289.body).getD .skip,true⟩:=by kernel_rfl
@[go_sem] theorem xLy :pfT TT 289=true:=by kernel_rfl
@[go_sem] theorem xWp :zG (XG G) TT 289 m l=owR (zA (XG G) TT 289 (zH l)) m:=ow xLy rfl
end
@[go_sem] theorem yIu :zN Tryz.prog 23=some 5:=by kernel_rfl
@[go_sem] theorem yIt :zN Tryz.prog 72=some 3:=by kernel_rfl
@[go_sem] theorem xWk :isAgg Tryz.prog 2=some false/\yS Tryz.prog 2=some 1/\yV Tryz.prog 2=true/\xA Tryz.prog 2=some (.int .i64 0)/\zIm Tryz.prog 2=some .i64/\isAgg Tryz.prog 3=some false/\yS Tryz.prog 3=some 1/\yV Tryz.prog 3=true/\xA Tryz.prog 3=some (.int .i64 0)/\wK Tryz.prog 3 1=true/\zIm Tryz.prog 3=some .i64/\isAgg Tryz.prog 4=some false/\yS Tryz.prog 4=some 1/\yV Tryz.prog 4=true/\xA Tryz.prog 4=some (.bool false)/\zKk Tryz.prog 4=true/\isAgg Tryz.prog 5=some false/\yS Tryz.prog 5=some 1/\yV Tryz.prog 5=true/\xA Tryz.prog 5=some (.int .u8 0)/\wK Tryz.prog 5 1=true/\zIm Tryz.prog 5=some .u8/\isAgg Tryz.prog 9=some false/\yS Tryz.prog 9=some 1:=by and_intros<;>kernel_rfl
@[go_sem] theorem xWj :yV Tryz.prog 9=true/\xA Tryz.prog 9=some (.str [])/\wK Tryz.prog 9 1=true/\wA Tryz.prog 9=true/\zN Tryz.prog 9=none/\isAgg Tryz.prog 23=some false/\yS Tryz.prog 23=some 1/\zI Tryz.prog 23=some 98/\isAgg Tryz.prog 24=some false/\yS Tryz.prog 24=some 1/\yV Tryz.prog 24=true/\xA Tryz.prog 24=some (.nil)/\wK Tryz.prog 24 1=true/\zI Tryz.prog 24=some 3/\isAgg Tryz.prog 25=some false/\yS Tryz.prog 25=some 1/\yV Tryz.prog 25=true/\xA Tryz.prog 25=some (.nil)/\wK Tryz.prog 25 1=true/\zI Tryz.prog 25=some 9/\isAgg Tryz.prog 27=some true/\yS Tryz.prog 27=some 3/\yV Tryz.prog 27=true/\xA Tryz.prog 27=some (.agg [.int .i64 0,.int .i64 0,.str []]):=by and_intros<;>kernel_rfl
@[go_sem] theorem xWi :wK Tryz.prog 27 3=true/\yQ Tryz.prog 27=true/\zE Tryz.prog 27 0=some 0/\zX Tryz.prog 27 0=some 3/\zE Tryz.prog 27 1=some 1/\zX Tryz.prog 27 1=some 2/\zE Tryz.prog 27 2=some 2/\zWe Tryz.prog 27=some [0,0,2]/\isAgg Tryz.prog 28=some false/\yS Tryz.prog 28=some 1/\zI Tryz.prog 28=some 30/\isAgg Tryz.prog 30=some true/\yS Tryz.prog 30=some 8/\xA Tryz.prog 30=some (.agg [.int .i64 0,.str [],.str [],.int .i64 0,.int .i64 0,.int .i64 0,.str [],.nil])/\zE Tryz.prog 30 0=some 0/\zE Tryz.prog 30 1=some 1/\zE Tryz.prog 30 2=some 2/\zE Tryz.prog 30 3=some 3/\zE Tryz.prog 30 4=some 4/\zE Tryz.prog 30 5=some 7/\isAgg Tryz.prog 32=some true/\yS Tryz.prog 32=some 11/\zE Tryz.prog 32 0=some 0/\zE Tryz.prog 32 1=some 1:=by and_intros<;>kernel_rfl
@[go_sem] theorem xWh :zE Tryz.prog 32 2=some 2/\zE Tryz.prog 32 3=some 3/\zI Tryz.prog 33=some 50/\isAgg Tryz.prog 37=some false/\yS Tryz.prog 37=some 1/\zI Tryz.prog 37=some 94/\isAgg Tryz.prog 38=some false/\yS Tryz.prog 38=some 1/\zI Tryz.prog 38=some 25/\isAgg Tryz.prog 39=some false/\yS Tryz.prog 39=some 1/\zI Tryz.prog 39=some 259/\isAgg Tryz.prog 41=some true/\yS Tryz.prog 41=some 4/\xA Tryz.prog 41=some (.agg [.nil,.nil,.nil,.nil])/\yQ Tryz.prog 41=true/\zE Tryz.prog 41 0=some 0/\zX Tryz.prog 41 0=some 37/\zE Tryz.prog 41 1=some 1/\zE Tryz.prog 41 2=some 2/\zE Tryz.prog 41 3=some 3/\zX Tryz.prog 41 3=some 28/\isAgg Tryz.prog 45=some false/\yS Tryz.prog 45=some 1:=by and_intros<;>kernel_rfl
@[go_sem] theorem xWg :zI Tryz.prog 45=some 104/\isAgg Tryz.prog 48=some true/\yS Tryz.prog 48=some 22/\yV Tryz.prog 48=true/\xA Tryz.prog 48=some (.agg [.int .i64 0,.str [],.nil,.nil,.nil,.nil,.nil,.nil,.nil,.nil,.int .i64 0,.str [],.str [],.int .i64 0,.int .i64 0,.int .i64 0,.str [],.nil,.nil,.nil,.int .i64 0,.str []])/\wK Tryz.prog 48 22=true/\yQ Tryz.prog 48=true/\zE Tryz.prog 48 0=some 0/\zX Tryz.prog 48 0=some 3/\zE Tryz.prog 48 1=some 1/\zX Tryz.prog 48 1=some 9/\zE Tryz.prog 48 2=some 2/\zX Tryz.prog 48 2=some 41/\zE Tryz.prog 48 6=some 9/\zE Tryz.prog 48 7=some 10/\zX Tryz.prog 48 7=some 30/\isAgg Tryz.prog 49=some false/\yS Tryz.prog 49=some 1/\zI Tryz.prog 49=some 102/\isAgg Tryz.prog 50=some false/\yS Tryz.prog 50=some 1/\zI Tryz.prog 50=some 72/\isAgg Tryz.prog 52=some true/\yS Tryz.prog 52=some 26:=by and_intros<;>kernel_rfl
@[go_sem] theorem xWf :xA Tryz.prog 52=some (.agg [.int .i64 0,.str [],.nil,.nil,.nil,.nil,.nil,.nil,.nil,.nil,.int .i64 0,.str [],.str [],.int .i64 0,.int .i64 0,.int .i64 0,.str [],.nil,.nil,.nil,.int .i64 0,.str [],.int .i64 0,.nil,.nil,.nil])/\yQ Tryz.prog 52=true/\zE Tryz.prog 52 0=some 0/\zX Tryz.prog 52 0=some 48/\zE Tryz.prog 52 2=some 23/\zE Tryz.prog 52 3=some 24/\yS Tryz.prog 53=some 1/\zJf Tryz.prog 53=1/\zI Tryz.prog 71=some 27/\isAgg Tryz.prog 72=some false/\yS Tryz.prog 72=some 1/\yV Tryz.prog 72=true/\xA Tryz.prog 72=some (.nil)/\wK Tryz.prog 72 1=true/\zI Tryz.prog 72=some 27/\isAgg Tryz.prog 76=some true/\yS Tryz.prog 76=some 4/\xA Tryz.prog 76=some (.agg [.int .i64 0,.int .i64 0,.nil,.nil])/\yQ Tryz.prog 76=true/\zE Tryz.prog 76 0=some 0/\zX Tryz.prog 76 0=some 3/\zE Tryz.prog 76 1=some 1/\zX Tryz.prog 76 1=some 2/\zE Tryz.prog 76 2=some 2:=by and_intros<;>kernel_rfl
@[go_sem] theorem xWe :zE Tryz.prog 76 3=some 3/\zX Tryz.prog 76 3=some 72/\isAgg Tryz.prog 94=some true/\yS Tryz.prog 94=some 6/\yV Tryz.prog 94=true/\xA Tryz.prog 94=some (.agg [.str [],.int .i64 0,.int .i64 0,.int .i64 0,.int .i64 0,.bool false])/\wK Tryz.prog 94 6=true/\zE Tryz.prog 94 0=some 0/\zE Tryz.prog 94 1=some 1/\zE Tryz.prog 94 2=some 2/\zE Tryz.prog 94 3=some 3/\zE Tryz.prog 94 4=some 4/\zE Tryz.prog 94 5=some 5/\isAgg Tryz.prog 95=some false/\yS Tryz.prog 95=some 1/\zI Tryz.prog 95=some 24/\isAgg Tryz.prog 96=some false/\yS Tryz.prog 96=some 1/\zI Tryz.prog 96=some 195/\isAgg Tryz.prog 98=some true/\yS Tryz.prog 98=some 5/\yV Tryz.prog 98=true/\xA Tryz.prog 98=some (.agg [.str [],.nil,.nil,.nil,.nil])/\wK Tryz.prog 98 5=true:=by and_intros<;>kernel_rfl
@[go_sem] theorem xWd :yQ Tryz.prog 98=true/\zE Tryz.prog 98 0=some 0/\zX Tryz.prog 98 0=some 9/\zE Tryz.prog 98 1=some 1/\zX Tryz.prog 98 1=some 37/\zE Tryz.prog 98 2=some 2/\zE Tryz.prog 98 3=some 3/\zE Tryz.prog 98 4=some 4/\zX Tryz.prog 98 4=some 28/\yS Tryz.prog 102=some 5/\yV Tryz.prog 102=true/\xA Tryz.prog 102=some (.agg [.int .i64 0,.int .i64 0,.int .i64 0,.int .i64 0,.bool false])/\wK Tryz.prog 102 5=true/\yQ Tryz.prog 102=true/\zE Tryz.prog 102 0=some 0/\zX Tryz.prog 102 0=some 3/\zE Tryz.prog 102 1=some 1/\zX Tryz.prog 102 1=some 2/\zE Tryz.prog 102 2=some 2/\zX Tryz.prog 102 2=some 2/\zE Tryz.prog 102 3=some 3/\zX Tryz.prog 102 3=some 3/\zE Tryz.prog 102 4=some 4/\zX Tryz.prog 102 4=some 4:=by and_intros<;>kernel_rfl
@[go_sem] theorem xWc :yS Tryz.prog 104=some 2/\yV Tryz.prog 104=true/\xA Tryz.prog 104=some (.agg [.str [],.str []])/\wK Tryz.prog 104 2=true/\yQ Tryz.prog 104=true/\zE Tryz.prog 104 0=some 0/\zX Tryz.prog 104 0=some 9/\zE Tryz.prog 104 1=some 1/\zX Tryz.prog 104 1=some 9/\isAgg Tryz.prog 111=some true/\yS Tryz.prog 111=some 28/\xA Tryz.prog 111=some (.agg [.nilptr,.int .i64 0,.str [],.nil,.nil,.nil,.nil,.nil,.nil,.nil,.nil,.int .i64 0,.str [],.str [],.int .i64 0,.int .i64 0,.int .i64 0,.str [],.nil,.nil,.nil,.int .i64 0,.str [],.int .i64 0,.nil,.nil,.nil,.nil])/\yQ Tryz.prog 111=true/\zE Tryz.prog 111 0=some 0/\zX Tryz.prog 111 0=some 53/\zE Tryz.prog 111 1=some 1/\zX Tryz.prog 111 1=some 52/\zE Tryz.prog 111 2=some 27/\isAgg Tryz.prog 115=some true/\yS Tryz.prog 115=some 2/\yV Tryz.prog 115=true/\xA Tryz.prog 115=some (.agg [.int .i64 0,.nil])/\wK Tryz.prog 115 2=true/\yQ Tryz.prog 115=true:=by and_intros<;>kernel_rfl
@[go_sem] theorem xWb :zE Tryz.prog 115 0=some 0/\zX Tryz.prog 115 0=some 2/\zE Tryz.prog 115 1=some 1/\zX Tryz.prog 115 1=some 72/\isAgg Tryz.prog 116=some false/\yS Tryz.prog 116=some 1/\xA Tryz.prog 116=some (.nil)/\zI Tryz.prog 116=some 115/\isAgg Tryz.prog 120=some false/\yS Tryz.prog 120=some 1/\yV Tryz.prog 120=true/\xA Tryz.prog 120=some (.nilptr)/\wK Tryz.prog 120 1=true/\zJf Tryz.prog 120=1/\isAgg Tryz.prog 126=some false/\yS Tryz.prog 126=some 1/\isAgg Tryz.prog 127=some false/\yS Tryz.prog 127=some 1/\zI Tryz.prog 127=some 120/\yS Tryz.prog 129=some 2/\xA Tryz.prog 129=some (.agg [.nil,.nil])/\yQ Tryz.prog 129=true/\zE Tryz.prog 129 0=some 0/\zX Tryz.prog 129 0=some 23:=by and_intros<;>kernel_rfl
@[go_sem] theorem xVs :zE Tryz.prog 129 1=some 1/\isAgg Tryz.prog 162=some false/\yS Tryz.prog 162=some 1/\xA Tryz.prog 162=some (.nil)/\zI Tryz.prog 162=some 215/\isAgg Tryz.prog 164=some false/\yS Tryz.prog 164=some 1/\isAgg Tryz.prog 165=some false/\yS Tryz.prog 165=some 1/\isAgg Tryz.prog 171=some false/\yS Tryz.prog 171=some 1/\isAgg Tryz.prog 172=some false/\yS Tryz.prog 172=some 1/\zI Tryz.prog 172=some 177/\yS Tryz.prog 174=some 4/\xA Tryz.prog 174=some (.agg [.int .i64 0,.nilptr,.int .i64 0,.nil])/\yQ Tryz.prog 174=true/\zE Tryz.prog 174 0=some 0/\zX Tryz.prog 174 0=some 3/\zE Tryz.prog 174 1=some 1/\zX Tryz.prog 174 1=some 171/\zE Tryz.prog 174 2=some 2/\zX Tryz.prog 174 2=some 2/\zE Tryz.prog 174 3=some 3:=by and_intros<;>kernel_rfl
@[go_sem] theorem xVr :isAgg Tryz.prog 175=some false/\yS Tryz.prog 175=some 1/\isAgg Tryz.prog 177=some true/\yS Tryz.prog 177=some 2/\yV Tryz.prog 177=true/\xA Tryz.prog 177=some (.agg [.nil,.nilptr])/\wK Tryz.prog 177 2=true/\yQ Tryz.prog 177=true/\zE Tryz.prog 177 0=some 0/\zX Tryz.prog 177 0=some 24/\zE Tryz.prog 177 1=some 1/\zX Tryz.prog 177 1=some 175/\zI Tryz.prog 192=some 48/\isAgg Tryz.prog 195=some true/\yS Tryz.prog 195=some 3/\yV Tryz.prog 195=true/\xA Tryz.prog 195=some (.agg [.nil,.int .i64 0,.int .i64 0])/\wK Tryz.prog 195 3=true/\yQ Tryz.prog 195=true/\zE Tryz.prog 195 0=some 0/\zX Tryz.prog 195 0=some 24/\zE Tryz.prog 195 1=some 1/\zX Tryz.prog 195 1=some 3/\zE Tryz.prog 195 2=some 2:=by and_intros<;>kernel_rfl
@[go_sem] theorem xVq :zX Tryz.prog 195 2=some 3/\isAgg Tryz.prog 215=some true/\yS Tryz.prog 215=some 2/\yV Tryz.prog 215=true/\xA Tryz.prog 215=some (.agg [.int .i64 0,.nil])/\wK Tryz.prog 215 2=true/\yQ Tryz.prog 215=true/\zE Tryz.prog 215 0=some 0/\zX Tryz.prog 215 0=some 2/\zE Tryz.prog 215 1=some 1/\zX Tryz.prog 215 1=some 72/\isAgg Tryz.prog 232=some false/\yS Tryz.prog 232=some 1/\yS Tryz.prog 234=some 3/\xA Tryz.prog 234=some (.agg [.nilptr,.int .i64 0,.int .i64 0])/\yQ Tryz.prog 234=true/\zE Tryz.prog 234 0=some 0/\zX Tryz.prog 234 0=some 232/\zE Tryz.prog 234 1=some 1/\zX Tryz.prog 234 1=some 3/\zE Tryz.prog 234 2=some 2/\isAgg Tryz.prog 235=some false/\yS Tryz.prog 235=some 1/\zI Tryz.prog 235=some 2:=by and_intros<;>kernel_rfl
@[go_sem] theorem xVp :isAgg Tryz.prog 236=some false/\zI Tryz.prog 236=some 232/\yS Tryz.prog 238=some 3/\xA Tryz.prog 238=some (.agg [.nil,.nil,.nil])/\yQ Tryz.prog 238=true/\zE Tryz.prog 238 0=some 0/\zE Tryz.prog 238 1=some 1/\zE Tryz.prog 238 2=some 2/\isAgg Tryz.prog 240=some false/\yS Tryz.prog 240=some 1/\yS Tryz.prog 242=some 3/\xA Tryz.prog 242=some (.agg [.nilptr,.int .i64 0,.int .i64 0])/\yQ Tryz.prog 242=true/\zE Tryz.prog 242 0=some 0/\zX Tryz.prog 242 0=some 240/\zE Tryz.prog 242 1=some 1/\zX Tryz.prog 242 1=some 3/\zE Tryz.prog 242 2=some 2/\isAgg Tryz.prog 243=some false/\zI Tryz.prog 243=some 240/\yS Tryz.prog 245=some 3/\xA Tryz.prog 245=some (.agg [.nil,.nil,.nil])/\yQ Tryz.prog 245=true/\zE Tryz.prog 245 0=some 0:=by and_intros<;>kernel_rfl
@[go_sem] theorem xVo :zE Tryz.prog 245 1=some 1/\zE Tryz.prog 245 2=some 2/\zI Tryz.prog 246=some 5/\zIm Tryz.prog 248=some .u64/\zIm Tryz.prog 256=some .u64/\isAgg Tryz.prog 259=some true/\yS Tryz.prog 259=some 3/\yV Tryz.prog 259=true/\xA Tryz.prog 259=some (.agg [.nil,.str [],.nil])/\wK Tryz.prog 259 3=true/\yQ Tryz.prog 259=true/\zE Tryz.prog 259 0=some 0/\zX Tryz.prog 259 0=some 25/\zE Tryz.prog 259 1=some 1/\zX Tryz.prog 259 1=some 9/\zE Tryz.prog 259 2=some 2/\zX Tryz.prog 259 2=some 25/\isAgg Tryz.prog 274=some false/\yS Tryz.prog 274=some 1/\xA Tryz.prog 274=some (.nil)/\zI Tryz.prog 274=some 4/\vN Tryz.prog 276=some (3,165)/\isAgg Tryz.prog 336=some false/\yS Tryz.prog 336=some 1:=by and_intros<;>kernel_rfl
@[go_sem] theorem xVn :zJf Tryz.prog 336=1/\zI Tryz.prog 337=some 340/\isAgg Tryz.prog 340=some true/\yS Tryz.prog 340=some 2/\yV Tryz.prog 340=true/\xA Tryz.prog 340=some (.agg [.int .i64 0,.nil])/\wK Tryz.prog 340 2=true/\yQ Tryz.prog 340=true/\zE Tryz.prog 340 0=some 0/\zX Tryz.prog 340 0=some 2/\zE Tryz.prog 340 1=some 1/\zX Tryz.prog 340 1=some 72/\zN Tryz.prog 24=some 1/\zN Tryz.prog 25=some 1/\zN Tryz.prog 28=some 8/\zN Tryz.prog 33=some 1/\zN Tryz.prog 37=some 6/\zN Tryz.prog 38=some 1/\zN Tryz.prog 39=some 3/\zN Tryz.prog 45=some 2/\zN Tryz.prog 49=some 5/\zN Tryz.prog 50=some 1/\zN Tryz.prog 71=some 3/\zN Tryz.prog 95=some 1:=by and_intros<;>kernel_rfl
@[go_sem] theorem xVm :zN Tryz.prog 96=some 3/\zN Tryz.prog 116=some 2/\zN Tryz.prog 127=some 1/\zN Tryz.prog 162=some 2/\zN Tryz.prog 172=some 2/\zN Tryz.prog 192=some 22/\zN Tryz.prog 235=some 1/\zN Tryz.prog 246=some 1/\zN Tryz.prog 274=some 1/\zN Tryz.prog 337=some 2:=by and_intros<;>kernel_rfl
end Go.Eng
